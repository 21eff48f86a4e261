/- What the claim's row needs of the seat's texts, part 3: put together by a program of this session (declarations that no text of the claim names are left out). -/
import Derived.Outline
import Derived.Deep.RegionLawGrows
import Derived.Deep.RegionHeld3
import Derived.Deep.DeepCutAuto
import Derived.Lib.SliceRun
import Derived.Test.YtnafnieocpkkhaaK2
namespace Go.Proofs.Ytnafnieocpkkhaa.P
open Go.RowKit Go.Proofs.YtnafnieocpkkhaaW.PrintWords Go.Proofs.YtnafnieocpkkhaaW.PrintLast Go.Proofs.YtnafnieocpkkhaaW.PrintMore
attribute [local go_sem] max2_int min2_int max_two min_two max_three min_three max_four min_four
set_option linter.unusedVariables false
set_option linter.unusedSimpArgs false

/-! ### marginaliaref05_Width: function 21 -/
mutual
def marginaliaref05_Width.l0 : Nat → Int → Int → Int → Int → ByteArray → List (S26) → Option (Int)
 | 0, _, _, _, _, _, _ => none
 | k + 1, x3, x4, x248000, x248001, x248002, x248003 => if x4 < (x248003.length : Int) then (if 0 ≤ x4 then ((marginaliaref05_Width.f k ((rd_T26 x248003 x4).f0) ((rd_T26 x248003 x4).f1.f0) ((rd_T26 x248003 x4).f1.f1) ((rd_T26 x248003 x4).f2)).bind fun t249 => (marginaliaref05_Width.l0 k (wrap64 (x3 + t249)) (wrap64 (x4 + 1)) x248000 x248001 x248002 x248003)) else (none)) else (some x3)
def marginaliaref05_Width.f : Nat → Int → Int → ByteArray → List (S26) → Option (Int)
 | 0, _, _, _, _ => none
 | k + 1, a0_0, a0_1, a0_2, l0_3 => if a0_0 = 1 then (some (a0_2.size : Int)) else (marginaliaref05_Width.l0 k 0 0 a0_0 a0_1 a0_2 l0_3)
end
set_option maxHeartbeats 8000000 in
set_option maxRecDepth 100000 in
theorem marginaliaref05_Width.calls (k : Nat) : ∀ (a0_0 : Int) (a0_1 : Int) (a0_2 : ByteArray) (A0_3 : Option Addr) (c0_3 : Nat) (l0_3 : List (S26)) (r : Int) (w : World) (hr0_3 : Kd.C k26 w A0_3 l0_3.length l0_3) (hc0_3 : l0_3.length ≤ c0_3) (h : marginaliaref05_Width.f k a0_0 a0_1 a0_2 l0_3 = some r),
  Calls Try.prog 21 #[.agg #[.int .i64 a0_0, .int .i64 a0_1, .string a0_2, .slice A0_3 l0_3.length c0_3]] w fun e w' => e = .returned (.int .i64 r) ∧ Below w.heap.size w w' := by
 induction k using Nat.strongRecOn with
 | _ k ih =>
 intro a0_0 a0_1 a0_2 A0_3 c0_3 l0_3 r w hr0_3 hc0_3 h
 cases k with
 | zero => exact absurd h (by simp [marginaliaref05_Width.f])
 | succ k =>
 simp only [marginaliaref05_Width.f] at h; have hu26 := Try.underlying26; have HR0_3 := Aside0.mk hr0_3; have HC0_3 := Aside0.mk hc0_3; clear hr0_3 hc0_3; have HB := Aside0.mk (Below.refl w.heap.size w); have H : (if a0_0 = 1 then (some (a0_2.size : Int)) else (marginaliaref05_Width.l0 k 0 0 a0_0 a0_1 a0_2 l0_3)) = some r := h; clear h; by_cases c2 : a0_0 = 1
 ·rw [if_pos c2] at H; have c2b0 : (a0_0 == 1) = true := beq_iff_eq.mpr c2; have c2b1 : (a0_0 != 1) = false := bne_eq_false_iff_eq.mpr c2; clear c2; obtain rfl := Option.some.inj H; go_enter Try.func21, Try.ntmps21
  go_wp2_with (first | ((with_reducible refine zD 1 rfl ?_); refine zx 1 #[.int .i64 a0_0, .int .i64 a0_1, .string a0_2, .slice A0_3 l0_3.length c0_3] 26 ?_; intro gb247 hg w3 hbox hb; have BK247 := Aside0.mk (hbox); have GW247 := (zq hg : Aside0 (w.heap.size ≤ gb247)); have GE247 := GW247; replace HB := (zB hb); clear hb hbox hg; obtain ⟨hcz4_0, hcz4_1, hcz4_2, hcz4_3⟩ := zc4 BK247; obtain ⟨hfz4_0, hfz4_1, hfz4_2, hfz4_3⟩ := zz4 BK247))
  go_ret; exact ⟨zr, zb⟩
 ·rw [if_neg c2] at H; have c2b0 : (a0_0 == 1) = false := beq_eq_false_iff_ne.mpr c2; have c2b1 : (a0_0 != 1) = true := bne_iff_ne.mpr c2; have H' := Aside0.mk H; clear H; go_enter Try.func21, Try.ntmps21
  go_wp2_with (first | ((with_reducible refine zD 1 rfl ?_); refine zx 1 #[.int .i64 a0_0, .int .i64 a0_1, .string a0_2, .slice A0_3 l0_3.length c0_3] 26 ?_; intro gb247 hg w5 hbox hb; have BK247 := Aside0.mk (hbox); have GW247 := (zq hg : Aside0 (w.heap.size ≤ gb247)); have GE247 := GW247; replace HB := (zB hb); clear hb hbox hg; obtain ⟨hcz6_0, hcz6_1, hcz6_2, hcz6_3⟩ := zc4 BK247; obtain ⟨hfz6_0, hfz6_1, hfz6_2, hfz6_3⟩ := zz4 BK247))
  go_loopg [3, 4] k (fun kq v3 v4 w' => ∃ (x3_1 : Int) (x4_1 : Int), v3 = .int .i64 x3_1 ∧ v4 = .int .i64 x4_1 ∧ Aside0 (marginaliaref05_Width.l0 kq x3_1 x4_1 a0_0 a0_1 a0_2 l0_3 = some r) ∧ Aside0 (kq ≤ k) ∧ Aside0 (w'.heap[gb247]? = some (.cells #[.int .i64 a0_0, .int .i64 a0_1, .string a0_2, (.slice A0_3 l0_3.length c0_3)] 26 (0, 0))) ∧ Aside0 (Below w.heap.size w w'))
  case atStart => exact ⟨(0), (0), zs, zs, H', ⟨Nat.le_refl _⟩, (zA BK247), ⟨zb⟩⟩
  case round =>
   clear H'; obtain ⟨x3_1, x4_1, rfl, rfl, HA, HK1, BK247, HB⟩ := hrel
   cases gk with
   | zero => exact absurd HA.out (by simp [marginaliaref05_Width.l0])
   | succ k1 =>
    have H := HA.out; clear HA; simp only [marginaliaref05_Width.l0] at H; by_cases c7 : x4_1 < (l0_3.length : Int)
    ·rw [if_pos c7] at H; have c7b0 := decide_eq_true c7; clear c7; replace H := zi1 H; obtain ⟨c8b0, H⟩ := H; replace H := zo H; obtain ⟨t249, A9, H⟩ := H; have H' := Aside0.mk H; clear H; obtain ⟨hcz10_0, hcz10_1, hcz10_2, hcz10_3⟩ := zc4 BK247; obtain ⟨hfz10_0, hfz10_1, hfz10_2, hfz10_3⟩ := zz4 BK247; have p248 : 0 ≤ (x4_1 : Int) := zt; have q248 : x4_1 < (l0_3.length : Int) := zt; obtain ⟨ad248, A248_3, c248_3, e248, hx248_0, hx248_1, hx248_2, hx248_3, hl248_3, hi248_3⟩ := at_T26 HR0_3.out x4_1 p248 q248
     cases e248
     replace hx248_0 := zh HB hx248_0; replace hx248_1 := zh HB hx248_1; replace hx248_2 := zh HB hx248_2; replace hx248_3 := zh HB hx248_3; have HR248_3 := Aside0.mk hi248_3; have HC248_3 := Aside0.mk hl248_3; clear hi248_3 hl248_3; replace p248 := eq_true p248; replace q248 := eq_true q248
     go_wp2_with (first | ((with_reducible refine zG 21 rfl ?_); refine zg 25 Try.func21 ((ih k1 (by have := HK1.out; omega) ((rd_T26 l0_3 x4_1).f0) ((rd_T26 l0_3 x4_1).f1.f0) ((rd_T26 l0_3 x4_1).f1.f1) _ _ ((rd_T26 l0_3 x4_1).f2) t249 _ ?side1 ?side2 A9.out).mono ?_); (case side1 => exact zC HR248_3); (case side2 => exact HC248_3.out); rintro e w11 ⟨rfl, hb⟩; refine ⟨_, rfl, ?_⟩; replace BK247 := (zK BK247 hb); replace HB := (zB hb); (try clear hb); (try clear hb2); (try clear hk); (try clear hi)))
     go_roundg k1
     case measure => have := HK1.out; omega
     case rel => exact ⟨(wrap64 (x3_1 + t249)), (wrap64 (x4_1 + 1)), zs, zs, H', zk, (zA BK247), ⟨zb⟩⟩
    ·rw [if_neg c7] at H; have c7b0 := decide_eq_false c7; clear c7; obtain rfl := Option.some.inj H; obtain ⟨hcz12_0, hcz12_1, hcz12_2, hcz12_3⟩ := zc4 BK247; obtain ⟨hfz12_0, hfz12_1, hfz12_2, hfz12_3⟩ := zz4 BK247; go_wp2; go_ret; exact ⟨zr, zb⟩

/-! ### marginaliaref05_Find: function 22 -/
mutual
def marginaliaref05_Find.l0 : Nat → Int → List Int → Int → Int → ByteArray → List (S26) → Option (List Int × Bool)
 | 0, _, _, _, _, _, _ => none
 | k + 1, x1, x6, x251000, x251001, x251002, x251003 => if x251000 = 1 then (some (x6, true)) else (marginaliaref05_Find.l1 k x1 x6 (-1) 0 0 x251000 x251001 x251002 x251003)
def marginaliaref05_Find.l1 : Nat → Int → List Int → Int → Int → Int → Int → Int → ByteArray → List (S26) → Option (List Int × Bool)
 | 0, _, _, _, _, _, _, _, _, _ => none
 | k + 1, x1, x6, x7, x8, x9, x251000, x251001, x251002, x251003 => if x9 < (x251003.length : Int) then (if 0 ≤ x9 then ((marginaliaref05_Width.f k ((rd_T26 x251003 x9).f0) ((rd_T26 x251003 x9).f1.f0) ((rd_T26 x251003 x9).f1.f1) ((rd_T26 x251003 x9).f2)).bind fun t253 => ((marginaliaref05_leaves.f k ((rd_T26 x251003 x9).f0) ((rd_T26 x251003 x9).f1.f0) ((rd_T26 x251003 x9).f1.f1) ((rd_T26 x251003 x9).f2)).bind fun t255 => (if t255 > 0 then (if x8 ≤ x1 then (marginaliaref05_Find.l1 k x1 x6 x9 (wrap64 (x8 + t253)) (wrap64 (x9 + 1)) x251000 x251001 x251002 x251003) else (marginaliaref05_Find.l1 k x1 x6 x7 (wrap64 (x8 + t253)) (wrap64 (x9 + 1)) x251000 x251001 x251002 x251003)) else (marginaliaref05_Find.l1 k x1 x6 x7 (wrap64 (x8 + t253)) (wrap64 (x9 + 1)) x251000 x251001 x251002 x251003)))) else (none)) else (marginaliaref05_Find.l2 k x1 x6 x7 0 x251000 x251001 x251002 x251003)
def marginaliaref05_Find.l2 : Nat → Int → List Int → Int → Int → Int → Int → ByteArray → List (S26) → Option (List Int × Bool)
 | 0, _, _, _, _, _, _, _, _ => none
 | k + 1, x1, x6, x7, x11, x251000, x251001, x251002, x251003 => if x11 < x7 then (if 0 ≤ x11 then (if x11 < (x251003.length : Int) then ((marginaliaref05_Width.f k ((rd_T26 x251003 x11).f0) ((rd_T26 x251003 x11).f1.f0) ((rd_T26 x251003 x11).f1.f1) ((rd_T26 x251003 x11).f2)).bind fun t257 => (marginaliaref05_Find.l2 k (wrap64 (x1 - t257)) x6 x7 (wrap64 (x11 + 1)) x251000 x251001 x251002 x251003)) else (none)) else (none)) else (if x6.length < 17592186044416 then (if 0 ≤ x7 then (if x7 < (x251003.length : Int) then (marginaliaref05_Find.l0 k x1 (x6 ++ [x7]) ((rd_T26 x251003 x7).f0) ((rd_T26 x251003 x7).f1.f0) ((rd_T26 x251003 x7).f1.f1) ((rd_T26 x251003 x7).f2)) else (none)) else (none)) else (none))
end
def marginaliaref05_Find.f (k : Nat) (a0_0 : Int) (a0_1 : Int) (a0_2 : ByteArray) (l0_3 : List (S26)) (a1 : Int) : Option (List Int × Bool) := (marginaliaref05_leaves.f k a0_0 a0_1 a0_2 l0_3).bind fun t251 => (if t251 = 0 then (some (([] : List Int), false)) else (marginaliaref05_Find.l0 k a1 ([] : List Int) a0_0 a0_1 a0_2 l0_3))
set_option maxHeartbeats 8000000 in
set_option maxRecDepth 100000 in
theorem marginaliaref05_Find.calls (k : Nat) (a0_0 : Int) (a0_1 : Int) (a0_2 : ByteArray) (P0_3_ : Nat → Prop) (A0_3 : Option Addr) (c0_3 : Nat) (l0_3 : List (S26)) (a1 : Int) (r1 : List Int) (r2 : Bool) (w : World) (hs0_3 : Kd.V k26 26 w w.heap.size (fun k_ => P0_3_ k_) (.slice A0_3 l0_3.length c0_3) l0_3) (h : marginaliaref05_Find.f k a0_0 a0_1 a0_2 l0_3 a1 = some (r1, r2)) :
  Calls Try.prog 22 #[.agg #[.int .i64 a0_0, .int .i64 a0_1, .string a0_2, .slice A0_3 l0_3.length c0_3], .int .i64 a1] w fun e w' => ∃ v0_ : Value, e = .returned (.tuple #[v0_, .bool r2]) ∧ Kd.R (Kd.int .i64) 3 w' w.heap.size (fun k_ => (w.heap.size ≤ k_)) v0_ r1 ∧ Below w.heap.size w w' := by
 have hu26 := Try.underlying26; have HO0_3 := Aside0.mk (show Kd.V k26 26 w w.heap.size (fun k_ => (P0_3_ k_ ∨ w.heap.size ≤ k_)) (.slice A0_3 l0_3.length c0_3) l0_3 from Kd.V_mono hs0_3 (fun k_ hk => .inl hk)); have HB := Aside0.mk (Below.refl w.heap.size w); have H : ((marginaliaref05_leaves.f k a0_0 a0_1 a0_2 l0_3).bind fun t251 => (if t251 = 0 then (some (([] : List Int), false)) else (marginaliaref05_Find.l0 k a1 ([] : List Int) a0_0 a0_1 a0_2 l0_3))) = some (r1, r2) := h; clear h; replace H := zo H; obtain ⟨t251, A3, H⟩ := H; by_cases c4 : t251 = 0
 ·rw [if_pos c4] at H; have c4b0 : (t251 == 0) = true := beq_iff_eq.mpr c4; have c4b1 : (t251 != 0) = false := bne_eq_false_iff_eq.mpr c4; clear c4; simp only [Option.some.injEq, Prod.mk.injEq] at H; obtain ⟨rfl, rfl⟩ := H; go_enter Try.func22, Try.ntmps22
  go_wp2_with (first | ((with_reducible refine zD 2 rfl ?_); refine zx 2 #[.int .i64 a0_0, .int .i64 a0_1, .string a0_2, .slice A0_3 l0_3.length c0_3] 26 ?_; intro gb250 hg w5 hbox hb; replace HO0_3 := Aside0.mk (Kd.V_below (Kd.V_elderB (zV HO0_3) gb250 (Nat.le_of_eq hg.symm)) hb); have BK250 := Aside0.mk (hbox); have GW250 := (zq hg : Aside0 (w.heap.size ≤ gb250)); have GE250 := GW250; replace HB := (zB hb); clear hb hbox hg; obtain ⟨hcz6_0, hcz6_1, hcz6_2, hcz6_3⟩ := zc4 BK250; obtain ⟨hfz6_0, hfz6_1, hfz6_2, hfz6_3⟩ := zz4 BK250) | ((with_reducible refine zG 59 rfl ?_); refine zg 13 Try.func59 ((marginaliaref05_leaves.calls k a0_0 a0_1 a0_2 _ _ l0_3 t251 _ ?side1 ?side2 A3.out).mono ?_); (case side1 => exact zE' (Kd.V_reads' HO0_3.out).2.2); (case side2 => exact (Kd.V_reads' HO0_3.out).2.1); rintro e w7 ⟨rfl, hb⟩; refine ⟨_, rfl, ?_⟩; replace HO0_3 := (zVb HO0_3 hb); replace BK250 := (zK BK250 hb); replace HB := (zB hb); (try clear hb); (try clear hb2); (try clear hk); (try clear hi)))
  go_ret2
  exact ⟨_, zr, by first | exact Kd.R_nil _ _ _ _ _ | exact Kd.N_nil _ _ _ _ _ | exact Kd.V_nil _ _ _ _ _ | exact Kd.Q_nil _ _ _ _ _ | exact Kd.S_nil _ _ _ _ _, zb⟩
 ·rw [if_neg c4] at H; have c4b0 : (t251 == 0) = false := beq_eq_false_iff_ne.mpr c4; have c4b1 : (t251 != 0) = true := bne_iff_ne.mpr c4; have H' := Aside0.mk H; clear H; go_enter Try.func22, Try.ntmps22
  go_wp2_with (first | ((with_reducible refine zD 2 rfl ?_); refine zx 2 #[.int .i64 a0_0, .int .i64 a0_1, .string a0_2, .slice A0_3 l0_3.length c0_3] 26 ?_; intro gb250 hg w8 hbox hb; replace HO0_3 := Aside0.mk (Kd.V_below (Kd.V_elderB (zV HO0_3) gb250 (Nat.le_of_eq hg.symm)) hb); have BK250 := Aside0.mk (hbox); have GW250 := (zq hg : Aside0 (w.heap.size ≤ gb250)); have GE250 := GW250; replace HB := (zB hb); clear hb hbox hg; obtain ⟨hcz9_0, hcz9_1, hcz9_2, hcz9_3⟩ := zc4 BK250; obtain ⟨hfz9_0, hfz9_1, hfz9_2, hfz9_3⟩ := zz4 BK250) | ((with_reducible refine zG 59 rfl ?_); refine zg 13 Try.func59 ((marginaliaref05_leaves.calls k a0_0 a0_1 a0_2 _ _ l0_3 t251 _ ?side1 ?side2 A3.out).mono ?_); (case side1 => exact zE' (Kd.V_reads' HO0_3.out).2.2); (case side2 => exact (Kd.V_reads' HO0_3.out).2.1); rintro e w10 ⟨rfl, hb⟩; refine ⟨_, rfl, ?_⟩; replace HO0_3 := (zVb HO0_3 hb); replace BK250 := (zK BK250 hb); replace HB := (zB hb); (try clear hb); (try clear hb2); (try clear hk); (try clear hi)))
  go_loopg [1, 6] k (fun kq v1 v6 w' => ∃ (x1_1 : Int) (x6_1 : List Int) (x251000_1 : Int) (x251001_1 : Int) (x251002_1 : ByteArray) (x251003_1 : List (S26)) (u251003 : Value), v1 = .int .i64 x1_1 ∧ Aside0 (marginaliaref05_Find.l0 kq x1_1 x6_1 x251000_1 x251001_1 x251002_1 x251003_1 = some (r1, r2)) ∧ Aside0 (kq ≤ k) ∧ Aside0 (Kd.R (Kd.int .i64) 3 w' w.heap.size (fun k_ => (w.heap.size ≤ k_)) v6 x6_1) ∧ Aside0 (Kd.V k26 26 w' w.heap.size (fun k_ => (P0_3_ k_ ∨ w.heap.size ≤ k_) ∧ some k_ ≠ (v6 : Value).ownBlock ∧ k_ ≠ gb250) u251003 x251003_1) ∧ Aside0 (w'.heap[gb250]? = some (.cells #[.int .i64 x251000_1, .int .i64 x251001_1, .string x251002_1, u251003] 26 (0, 0))) ∧ Aside0 (Below w.heap.size w w'))
  case atStart => exact ⟨(a1), (([] : List Int)), (a0_0), (a0_1), (a0_2), (l0_3), (.slice A0_3 l0_3.length c0_3), zs, H', ⟨Nat.le_refl _⟩, ⟨by first | exact Kd.R_nil _ _ _ _ _ | exact Kd.N_nil _ _ _ _ _ | exact Kd.V_nil _ _ _ _ _ | exact Kd.Q_nil _ _ _ _ _ | exact Kd.S_nil _ _ _ _ _⟩, ⟨by (with_reducible repeat (first | apply Kd.V_alloc | apply Kd.V_drewN | apply Kd.V_drew)); exact Kd.V_mono HO0_3.out (fun _ hk => ⟨hk.1, ⟨(by simp [Value.ownBlock]), hk.2⟩⟩)⟩, (zA BK250), ⟨zb⟩⟩
  case round =>
   clear H'; obtain ⟨x1_1, x6_1, x251000_1, x251001_1, x251002_1, x251003_1, u251003, rfl, HA, HK1, HO_6, HO_251003, BK250, HB⟩ := hrel
   cases gk with
   | zero => exact absurd HA.out (by simp [marginaliaref05_Find.l0])
   | succ k1 =>
    have H := HA.out; clear HA; simp only [marginaliaref05_Find.l0] at H; by_cases c11 : x251000_1 = 1
    ·rw [if_pos c11] at H; have c11b0 : (x251000_1 == 1) = true := beq_iff_eq.mpr c11; have c11b1 : (x251000_1 != 1) = false := bne_eq_false_iff_eq.mpr c11; clear c11; simp only [Option.some.injEq, Prod.mk.injEq] at H; obtain ⟨rfl, rfl⟩ := H; obtain ⟨hcz12_0, hcz12_1, hcz12_2, hcz12_3⟩ := zc4 BK250; obtain ⟨hfz12_0, hfz12_1, hfz12_2, hfz12_3⟩ := zz4 BK250; go_wp2
     go_ret2
     exact ⟨_, zr, by (with_reducible repeat (first | apply Kd.R_alloc | apply Kd.R_drewN | apply Kd.R_drew)); exact HO_6.out, zb⟩
    ·rw [if_neg c11] at H; have c11b0 : (x251000_1 == 1) = false := beq_eq_false_iff_ne.mpr c11; have c11b1 : (x251000_1 != 1) = true := bne_iff_ne.mpr c11; have H' := Aside0.mk H; clear H; obtain ⟨hcz13_0, hcz13_1, hcz13_2, hcz13_3⟩ := zc4 BK250; obtain ⟨hfz13_0, hfz13_1, hfz13_2, hfz13_3⟩ := zz4 BK250; go_wp2
     go_loopg [7, 8, 9] k1 (fun kq v7 v8 v9 w' => ∃ (x7_2 : Int) (x8_2 : Int) (x9_2 : Int), v7 = .int .i64 x7_2 ∧ v8 = .int .i64 x8_2 ∧ v9 = .int .i64 x9_2 ∧ Aside0 (marginaliaref05_Find.l1 kq x1_1 x6_1 x7_2 x8_2 x9_2 x251000_1 x251001_1 x251002_1 x251003_1 = some (r1, r2)) ∧ Aside0 (kq ≤ k1) ∧ Aside0 (Kd.R (Kd.int .i64) 3 w' w.heap.size (fun k_ => (w.heap.size ≤ k_)) u6 x6_1) ∧ Aside0 (Kd.V k26 26 w' w.heap.size (fun k_ => (P0_3_ k_ ∨ w.heap.size ≤ k_) ∧ some k_ ≠ (u6 : Value).ownBlock ∧ k_ ≠ gb250) u251003 x251003_1) ∧ Aside0 (w'.heap[gb250]? = some (.cells #[.int .i64 x251000_1, .int .i64 x251001_1, .string x251002_1, u251003] 26 (0, 0))) ∧ Aside0 (Below w.heap.size w w'))
     case atStart => exact ⟨((-1)), (0), (0), zs, zs, zs, H', ⟨Nat.le_refl _⟩, ⟨by (with_reducible repeat (first | apply Kd.R_alloc | apply Kd.R_drewN | apply Kd.R_drew)); exact HO_6.out⟩, ⟨by (with_reducible repeat (first | apply Kd.V_alloc | apply Kd.V_drewN | apply Kd.V_drew)); exact HO_251003.out⟩, (zA BK250), ⟨zb⟩⟩
     case round =>
      clear H'; obtain ⟨x7_2, x8_2, x9_2, rfl, rfl, rfl, HA, HK2, HO_6, HO_251003, BK250, HB⟩ := hrel
      cases gk with
      | zero => exact absurd HA.out (by simp [marginaliaref05_Find.l1])
      | succ k2 =>
       have H := HA.out; clear HA; simp only [marginaliaref05_Find.l1] at H; by_cases c14 : x9_2 < (x251003_1.length : Int)
       ·rw [if_pos c14] at H; have c14b0 := decide_eq_true c14; clear c14; replace H := zi1 H; obtain ⟨c15b0, H⟩ := H; replace H := zo H; obtain ⟨t253, A16, H⟩ := H; replace H := zo H; obtain ⟨t255, A17, H⟩ := H; by_cases c18 : t255 > 0
        ·rw [if_pos c18] at H; have c18b0 := decide_eq_true c18; clear c18; by_cases c19 : x8_2 ≤ x1_1
         ·rw [if_pos c19] at H; have c19b0 := decide_eq_true c19; clear c19; have H' := Aside0.mk H; clear H; obtain ⟨hcz20_0, hcz20_1, hcz20_2, hcz20_3⟩ := zc4 BK250; obtain ⟨hfz20_0, hfz20_1, hfz20_2, hfz20_3⟩ := zz4 BK250; obtain ⟨Ao21, co21, eo21⟩ := Kd.V_slice HO_251003.out; subst eo21; have p252 : 0 ≤ (x9_2 : Int) := zt; have q252 : x9_2 < (x251003_1.length : Int) := zt; obtain ⟨ad252, A252_3, c252_3, e252, hx252_0, hx252_1, hx252_2, hx252_3, hl252_3, hi252_3⟩ := at_T26 (Kd.V_reads' HO_251003.out).2.2 x9_2 p252 q252
          cases e252
          obtain ⟨ce252, hce252, hMe252, hcc252⟩ := Kd.V_get HO_251003.out z26 x9_2 p252 (by first | exact q252 | exact zt | (have e_ := (Kd.V_reads' HO_251003.out).1; omega)); obtain ⟨ua252_3, uc252_3, rfl, ul252_3, ge252_3⟩ := k26_openF hMe252; have hv252_3 := hcc252 3 _ rfl; rw [add_field _ _ 3 (by omega)] at hv252_3; replace hv252_3 := Option.some.inj (hv252_3.symm.trans hx252_3); injection hv252_3 with hva_ hvn_ hvc_; rw [hva_] at ge252_3; rw [hvc_] at ul252_3; have HL252_3 := Aside0.mk (show Kd.V k26 26 _ w.heap.size _ _ ((rd_T26 x251003_1 x9_2).f2) from Kd.V_mk ul252_3 ge252_3); clear hva_ hvn_ hvc_ ge252_3 ul252_3 hcc252 hce252; have HR252_3 := Aside0.mk hi252_3; have HC252_3 := Aside0.mk hl252_3; clear hi252_3 hl252_3; replace p252 := eq_true p252; replace q252 := eq_true q252
          go_wp2_with (first | ((with_reducible refine zG 21 rfl ?_); refine zg 30 Try.func21 ((marginaliaref05_Width.calls k2 ((rd_T26 x251003_1 x9_2).f0) ((rd_T26 x251003_1 x9_2).f1.f0) ((rd_T26 x251003_1 x9_2).f1.f1) _ _ ((rd_T26 x251003_1 x9_2).f2) t253 _ ?side1 ?side2 A16.out).mono ?_); (case side1 => exact (zE HR252_3)); (case side2 => exact HC252_3.out); rintro e w22 ⟨rfl, hb⟩; refine ⟨_, rfl, ?_⟩; replace HO_6 := (zRb HO_6 hb); replace HO_251003 := (zVb HO_251003 hb); replace HL252_3 := (zVb HL252_3 hb); replace BK250 := (zK BK250 hb); replace HR252_3 := Aside0.mk (Kd.C_below (zE HR252_3) hb); replace HB := (zB hb); (try clear hb); (try clear hb2); (try clear hk); (try clear hi); obtain ⟨hcz23_0, hcz23_1, hcz23_2, hcz23_3⟩ := zc4 BK250; obtain ⟨hfz23_0, hfz23_1, hfz23_2, hfz23_3⟩ := zz4 BK250; have p254 : 0 ≤ (x9_2 : Int) := zt; have q254 : x9_2 < (x251003_1.length : Int) := zt; obtain ⟨ad254, A254_3, c254_3, e254, hx254_0, hx254_1, hx254_2, hx254_3, hl254_3, hi254_3⟩ := at_T26 (Kd.V_reads' HO_251003.out).2.2 x9_2 p254 q254; obtain rfl : ad252 = ad254 := (by injection e254); obtain ⟨ce254, hce254, hMe254, hcc254⟩ := Kd.V_get HO_251003.out z26 x9_2 p254 (by first | exact q254 | exact zt | (have e_ := (Kd.V_reads' HO_251003.out).1; omega)); obtain ⟨ua254_3, uc254_3, rfl, ul254_3, ge254_3⟩ := k26_openF hMe254; have hv254_3 := hcc254 3 _ rfl; rw [add_field _ _ 3 (by omega)] at hv254_3; replace hv254_3 := Option.some.inj (hv254_3.symm.trans hx254_3); injection hv254_3 with hva_ hvn_ hvc_; rw [hva_] at ge254_3; rw [hvc_] at ul254_3; have HL254_3 := Aside0.mk (show Kd.V k26 26 _ w.heap.size _ _ ((rd_T26 x251003_1 x9_2).f2) from Kd.V_mk ul254_3 ge254_3); clear hva_ hvn_ hvc_ ge254_3 ul254_3 hcc254 hce254; have HR254_3 := Aside0.mk hi254_3; have HC254_3 := Aside0.mk hl254_3; clear hi254_3 hl254_3; replace p254 := eq_true p254; replace q254 := eq_true q254) | ((with_reducible refine zG 59 rfl ?_); refine zg 36 Try.func59 ((marginaliaref05_leaves.calls k2 ((rd_T26 x251003_1 x9_2).f0) ((rd_T26 x251003_1 x9_2).f1.f0) ((rd_T26 x251003_1 x9_2).f1.f1) _ _ ((rd_T26 x251003_1 x9_2).f2) t255 _ ?side1 ?side2 A17.out).mono ?_); (case side1 => exact (zE HR254_3)); (case side2 => exact HC254_3.out); rintro e w24 ⟨rfl, hb⟩; refine ⟨_, rfl, ?_⟩; replace HO_6 := (zRb HO_6 hb); replace HO_251003 := (zVb HO_251003 hb); replace HL252_3 := (zVb HL252_3 hb); replace HL254_3 := (zVb HL254_3 hb); replace BK250 := (zK BK250 hb); replace HR252_3 := Aside0.mk (Kd.C_below (zE HR252_3) hb); replace HR254_3 := Aside0.mk (Kd.C_below (zE HR254_3) hb); replace HB := (zB hb); (try clear hb); (try clear hb2); (try clear hk); (try clear hi)))
          go_roundg k2
          case measure => have := HK1.out; have := HK2.out; omega
          case rel => exact ⟨(x9_2), (wrap64 (x8_2 + t253)), (wrap64 (x9_2 + 1)), zs, zs, zs, H', ⟨by have := HK1.out; have := HK2.out; omega⟩, ⟨by (with_reducible repeat (first | apply Kd.R_alloc | apply Kd.R_drewN | apply Kd.R_drew)); exact HO_6.out⟩, ⟨by (with_reducible repeat (first | apply Kd.V_alloc | apply Kd.V_drewN | apply Kd.V_drew)); exact HO_251003.out⟩, (zA BK250), ⟨zb⟩⟩
         ·rw [if_neg c19] at H; have c19b0 := decide_eq_false c19; clear c19; have H' := Aside0.mk H; clear H; obtain ⟨hcz25_0, hcz25_1, hcz25_2, hcz25_3⟩ := zc4 BK250; obtain ⟨hfz25_0, hfz25_1, hfz25_2, hfz25_3⟩ := zz4 BK250; obtain ⟨Ao26, co26, eo26⟩ := Kd.V_slice HO_251003.out; subst eo26; have p252 : 0 ≤ (x9_2 : Int) := zt; have q252 : x9_2 < (x251003_1.length : Int) := zt; obtain ⟨ad252, A252_3, c252_3, e252, hx252_0, hx252_1, hx252_2, hx252_3, hl252_3, hi252_3⟩ := at_T26 (Kd.V_reads' HO_251003.out).2.2 x9_2 p252 q252
          cases e252
          obtain ⟨ce252, hce252, hMe252, hcc252⟩ := Kd.V_get HO_251003.out z26 x9_2 p252 (by first | exact q252 | exact zt | (have e_ := (Kd.V_reads' HO_251003.out).1; omega)); obtain ⟨ua252_3, uc252_3, rfl, ul252_3, ge252_3⟩ := k26_openF hMe252; have hv252_3 := hcc252 3 _ rfl; rw [add_field _ _ 3 (by omega)] at hv252_3; replace hv252_3 := Option.some.inj (hv252_3.symm.trans hx252_3); injection hv252_3 with hva_ hvn_ hvc_; rw [hva_] at ge252_3; rw [hvc_] at ul252_3; have HL252_3 := Aside0.mk (show Kd.V k26 26 _ w.heap.size _ _ ((rd_T26 x251003_1 x9_2).f2) from Kd.V_mk ul252_3 ge252_3); clear hva_ hvn_ hvc_ ge252_3 ul252_3 hcc252 hce252; have HR252_3 := Aside0.mk hi252_3; have HC252_3 := Aside0.mk hl252_3; clear hi252_3 hl252_3; replace p252 := eq_true p252; replace q252 := eq_true q252
          go_wp2_with (first | ((with_reducible refine zG 21 rfl ?_); refine zg 30 Try.func21 ((marginaliaref05_Width.calls k2 ((rd_T26 x251003_1 x9_2).f0) ((rd_T26 x251003_1 x9_2).f1.f0) ((rd_T26 x251003_1 x9_2).f1.f1) _ _ ((rd_T26 x251003_1 x9_2).f2) t253 _ ?side1 ?side2 A16.out).mono ?_); (case side1 => exact (zE HR252_3)); (case side2 => exact HC252_3.out); rintro e w27 ⟨rfl, hb⟩; refine ⟨_, rfl, ?_⟩; replace HO_6 := (zRb HO_6 hb); replace HO_251003 := (zVb HO_251003 hb); replace HL252_3 := (zVb HL252_3 hb); replace BK250 := (zK BK250 hb); replace HR252_3 := Aside0.mk (Kd.C_below (zE HR252_3) hb); replace HB := (zB hb); (try clear hb); (try clear hb2); (try clear hk); (try clear hi); obtain ⟨hcz28_0, hcz28_1, hcz28_2, hcz28_3⟩ := zc4 BK250; obtain ⟨hfz28_0, hfz28_1, hfz28_2, hfz28_3⟩ := zz4 BK250; have p254 : 0 ≤ (x9_2 : Int) := zt; have q254 : x9_2 < (x251003_1.length : Int) := zt; obtain ⟨ad254, A254_3, c254_3, e254, hx254_0, hx254_1, hx254_2, hx254_3, hl254_3, hi254_3⟩ := at_T26 (Kd.V_reads' HO_251003.out).2.2 x9_2 p254 q254; obtain rfl : ad252 = ad254 := (by injection e254); obtain ⟨ce254, hce254, hMe254, hcc254⟩ := Kd.V_get HO_251003.out z26 x9_2 p254 (by first | exact q254 | exact zt | (have e_ := (Kd.V_reads' HO_251003.out).1; omega)); obtain ⟨ua254_3, uc254_3, rfl, ul254_3, ge254_3⟩ := k26_openF hMe254; have hv254_3 := hcc254 3 _ rfl; rw [add_field _ _ 3 (by omega)] at hv254_3; replace hv254_3 := Option.some.inj (hv254_3.symm.trans hx254_3); injection hv254_3 with hva_ hvn_ hvc_; rw [hva_] at ge254_3; rw [hvc_] at ul254_3; have HL254_3 := Aside0.mk (show Kd.V k26 26 _ w.heap.size _ _ ((rd_T26 x251003_1 x9_2).f2) from Kd.V_mk ul254_3 ge254_3); clear hva_ hvn_ hvc_ ge254_3 ul254_3 hcc254 hce254; have HR254_3 := Aside0.mk hi254_3; have HC254_3 := Aside0.mk hl254_3; clear hi254_3 hl254_3; replace p254 := eq_true p254; replace q254 := eq_true q254) | ((with_reducible refine zG 59 rfl ?_); refine zg 36 Try.func59 ((marginaliaref05_leaves.calls k2 ((rd_T26 x251003_1 x9_2).f0) ((rd_T26 x251003_1 x9_2).f1.f0) ((rd_T26 x251003_1 x9_2).f1.f1) _ _ ((rd_T26 x251003_1 x9_2).f2) t255 _ ?side1 ?side2 A17.out).mono ?_); (case side1 => exact (zE HR254_3)); (case side2 => exact HC254_3.out); rintro e w29 ⟨rfl, hb⟩; refine ⟨_, rfl, ?_⟩; replace HO_6 := (zRb HO_6 hb); replace HO_251003 := (zVb HO_251003 hb); replace HL252_3 := (zVb HL252_3 hb); replace HL254_3 := (zVb HL254_3 hb); replace BK250 := (zK BK250 hb); replace HR252_3 := Aside0.mk (Kd.C_below (zE HR252_3) hb); replace HR254_3 := Aside0.mk (Kd.C_below (zE HR254_3) hb); replace HB := (zB hb); (try clear hb); (try clear hb2); (try clear hk); (try clear hi)))
          go_roundg k2
          case measure => have := HK1.out; have := HK2.out; omega
          case rel => exact ⟨(x7_2), (wrap64 (x8_2 + t253)), (wrap64 (x9_2 + 1)), zs, zs, zs, H', ⟨by have := HK1.out; have := HK2.out; omega⟩, ⟨by (with_reducible repeat (first | apply Kd.R_alloc | apply Kd.R_drewN | apply Kd.R_drew)); exact HO_6.out⟩, ⟨by (with_reducible repeat (first | apply Kd.V_alloc | apply Kd.V_drewN | apply Kd.V_drew)); exact HO_251003.out⟩, (zA BK250), ⟨zb⟩⟩
        ·rw [if_neg c18] at H; have c18b0 := decide_eq_false c18; clear c18; have H' := Aside0.mk H; clear H; obtain ⟨hcz30_0, hcz30_1, hcz30_2, hcz30_3⟩ := zc4 BK250; obtain ⟨hfz30_0, hfz30_1, hfz30_2, hfz30_3⟩ := zz4 BK250; obtain ⟨Ao31, co31, eo31⟩ := Kd.V_slice HO_251003.out; subst eo31; have p252 : 0 ≤ (x9_2 : Int) := zt; have q252 : x9_2 < (x251003_1.length : Int) := zt; obtain ⟨ad252, A252_3, c252_3, e252, hx252_0, hx252_1, hx252_2, hx252_3, hl252_3, hi252_3⟩ := at_T26 (Kd.V_reads' HO_251003.out).2.2 x9_2 p252 q252
         cases e252
         obtain ⟨ce252, hce252, hMe252, hcc252⟩ := Kd.V_get HO_251003.out z26 x9_2 p252 (by first | exact q252 | exact zt | (have e_ := (Kd.V_reads' HO_251003.out).1; omega)); obtain ⟨ua252_3, uc252_3, rfl, ul252_3, ge252_3⟩ := k26_openF hMe252; have hv252_3 := hcc252 3 _ rfl; rw [add_field _ _ 3 (by omega)] at hv252_3; replace hv252_3 := Option.some.inj (hv252_3.symm.trans hx252_3); injection hv252_3 with hva_ hvn_ hvc_; rw [hva_] at ge252_3; rw [hvc_] at ul252_3; have HL252_3 := Aside0.mk (show Kd.V k26 26 _ w.heap.size _ _ ((rd_T26 x251003_1 x9_2).f2) from Kd.V_mk ul252_3 ge252_3); clear hva_ hvn_ hvc_ ge252_3 ul252_3 hcc252 hce252; have HR252_3 := Aside0.mk hi252_3; have HC252_3 := Aside0.mk hl252_3; clear hi252_3 hl252_3; replace p252 := eq_true p252; replace q252 := eq_true q252
         go_wp2_with (first | ((with_reducible refine zG 21 rfl ?_); refine zg 30 Try.func21 ((marginaliaref05_Width.calls k2 ((rd_T26 x251003_1 x9_2).f0) ((rd_T26 x251003_1 x9_2).f1.f0) ((rd_T26 x251003_1 x9_2).f1.f1) _ _ ((rd_T26 x251003_1 x9_2).f2) t253 _ ?side1 ?side2 A16.out).mono ?_); (case side1 => exact (zE HR252_3)); (case side2 => exact HC252_3.out); rintro e w32 ⟨rfl, hb⟩; refine ⟨_, rfl, ?_⟩; replace HO_6 := (zRb HO_6 hb); replace HO_251003 := (zVb HO_251003 hb); replace HL252_3 := (zVb HL252_3 hb); replace BK250 := (zK BK250 hb); replace HR252_3 := Aside0.mk (Kd.C_below (zE HR252_3) hb); replace HB := (zB hb); (try clear hb); (try clear hb2); (try clear hk); (try clear hi); obtain ⟨hcz33_0, hcz33_1, hcz33_2, hcz33_3⟩ := zc4 BK250; obtain ⟨hfz33_0, hfz33_1, hfz33_2, hfz33_3⟩ := zz4 BK250; have p254 : 0 ≤ (x9_2 : Int) := zt; have q254 : x9_2 < (x251003_1.length : Int) := zt; obtain ⟨ad254, A254_3, c254_3, e254, hx254_0, hx254_1, hx254_2, hx254_3, hl254_3, hi254_3⟩ := at_T26 (Kd.V_reads' HO_251003.out).2.2 x9_2 p254 q254; obtain rfl : ad252 = ad254 := (by injection e254); obtain ⟨ce254, hce254, hMe254, hcc254⟩ := Kd.V_get HO_251003.out z26 x9_2 p254 (by first | exact q254 | exact zt | (have e_ := (Kd.V_reads' HO_251003.out).1; omega)); obtain ⟨ua254_3, uc254_3, rfl, ul254_3, ge254_3⟩ := k26_openF hMe254; have hv254_3 := hcc254 3 _ rfl; rw [add_field _ _ 3 (by omega)] at hv254_3; replace hv254_3 := Option.some.inj (hv254_3.symm.trans hx254_3); injection hv254_3 with hva_ hvn_ hvc_; rw [hva_] at ge254_3; rw [hvc_] at ul254_3; have HL254_3 := Aside0.mk (show Kd.V k26 26 _ w.heap.size _ _ ((rd_T26 x251003_1 x9_2).f2) from Kd.V_mk ul254_3 ge254_3); clear hva_ hvn_ hvc_ ge254_3 ul254_3 hcc254 hce254; have HR254_3 := Aside0.mk hi254_3; have HC254_3 := Aside0.mk hl254_3; clear hi254_3 hl254_3; replace p254 := eq_true p254; replace q254 := eq_true q254) | ((with_reducible refine zG 59 rfl ?_); refine zg 36 Try.func59 ((marginaliaref05_leaves.calls k2 ((rd_T26 x251003_1 x9_2).f0) ((rd_T26 x251003_1 x9_2).f1.f0) ((rd_T26 x251003_1 x9_2).f1.f1) _ _ ((rd_T26 x251003_1 x9_2).f2) t255 _ ?side1 ?side2 A17.out).mono ?_); (case side1 => exact (zE HR254_3)); (case side2 => exact HC254_3.out); rintro e w34 ⟨rfl, hb⟩; refine ⟨_, rfl, ?_⟩; replace HO_6 := (zRb HO_6 hb); replace HO_251003 := (zVb HO_251003 hb); replace HL252_3 := (zVb HL252_3 hb); replace HL254_3 := (zVb HL254_3 hb); replace BK250 := (zK BK250 hb); replace HR252_3 := Aside0.mk (Kd.C_below (zE HR252_3) hb); replace HR254_3 := Aside0.mk (Kd.C_below (zE HR254_3) hb); replace HB := (zB hb); (try clear hb); (try clear hb2); (try clear hk); (try clear hi)))
         go_roundg k2
         case measure => have := HK1.out; have := HK2.out; omega
         case rel => exact ⟨(x7_2), (wrap64 (x8_2 + t253)), (wrap64 (x9_2 + 1)), zs, zs, zs, H', ⟨by have := HK1.out; have := HK2.out; omega⟩, ⟨by (with_reducible repeat (first | apply Kd.R_alloc | apply Kd.R_drewN | apply Kd.R_drew)); exact HO_6.out⟩, ⟨by (with_reducible repeat (first | apply Kd.V_alloc | apply Kd.V_drewN | apply Kd.V_drew)); exact HO_251003.out⟩, (zA BK250), ⟨zb⟩⟩
       ·rw [if_neg c14] at H; have c14b0 := decide_eq_false c14; clear c14; have H' := Aside0.mk H; clear H; obtain ⟨hcz35_0, hcz35_1, hcz35_2, hcz35_3⟩ := zc4 BK250; obtain ⟨hfz35_0, hfz35_1, hfz35_2, hfz35_3⟩ := zz4 BK250; obtain ⟨Ao36, co36, eo36⟩ := Kd.V_slice HO_251003.out; subst eo36; go_wp2
        go_loopg [1, 11] k2 (fun kq v1 v11 w' => ∃ (x1_3 : Int) (x11_3 : Int), v1 = .int .i64 x1_3 ∧ v11 = .int .i64 x11_3 ∧ Aside0 (marginaliaref05_Find.l2 kq x1_3 x6_1 x7_2 x11_3 x251000_1 x251001_1 x251002_1 x251003_1 = some (r1, r2)) ∧ Aside0 (kq ≤ k2) ∧ Aside0 (Kd.R (Kd.int .i64) 3 w' w.heap.size (fun k_ => (w.heap.size ≤ k_)) u6 x6_1) ∧ Aside0 (Kd.V k26 26 w' w.heap.size (fun k_ => (P0_3_ k_ ∨ w.heap.size ≤ k_) ∧ some k_ ≠ (u6 : Value).ownBlock ∧ k_ ≠ gb250) (.slice Ao36 x251003_1.length co36) x251003_1) ∧ Aside0 (w'.heap[gb250]? = some (.cells #[.int .i64 x251000_1, .int .i64 x251001_1, .string x251002_1, (.slice Ao36 x251003_1.length co36)] 26 (0, 0))) ∧ Aside0 (Below w.heap.size w w'))
        case atStart => exact ⟨(x1_1), (0), zs, zs, H', ⟨Nat.le_refl _⟩, ⟨by (with_reducible repeat (first | apply Kd.R_alloc | apply Kd.R_drewN | apply Kd.R_drew)); exact HO_6.out⟩, ⟨by (with_reducible repeat (first | apply Kd.V_alloc | apply Kd.V_drewN | apply Kd.V_drew)); exact HO_251003.out⟩, (zA BK250), ⟨zb⟩⟩
        case round =>
         clear H'; obtain ⟨x1_3, x11_3, rfl, rfl, HA, HK3, HO_6, HO_251003, BK250, HB⟩ := hrel
         cases gk with
         | zero => exact absurd HA.out (by simp [marginaliaref05_Find.l2])
         | succ k3 =>
          have H := HA.out; clear HA; simp only [marginaliaref05_Find.l2] at H; by_cases c37 : x11_3 < x7_2
          ·rw [if_pos c37] at H; have c37b0 := decide_eq_true c37; clear c37; replace H := zi1 H; obtain ⟨c38b0, H⟩ := H; replace H := zi1 H; obtain ⟨c39b0, H⟩ := H; replace H := zo H; obtain ⟨t257, A40, H⟩ := H; have H' := Aside0.mk H; clear H; obtain ⟨hcz41_0, hcz41_1, hcz41_2, hcz41_3⟩ := zc4 BK250; obtain ⟨hfz41_0, hfz41_1, hfz41_2, hfz41_3⟩ := zz4 BK250; have p256 : 0 ≤ (x11_3 : Int) := zt; have q256 : x11_3 < (x251003_1.length : Int) := zt; obtain ⟨ad256, A256_3, c256_3, e256, hx256_0, hx256_1, hx256_2, hx256_3, hl256_3, hi256_3⟩ := at_T26 (Kd.V_reads' HO_251003.out).2.2 x11_3 p256 q256
           cases e256
           obtain ⟨ce256, hce256, hMe256, hcc256⟩ := Kd.V_get HO_251003.out z26 x11_3 p256 (by first | exact q256 | exact zt | (have e_ := (Kd.V_reads' HO_251003.out).1; omega)); obtain ⟨ua256_3, uc256_3, rfl, ul256_3, ge256_3⟩ := k26_openF hMe256; have hv256_3 := hcc256 3 _ rfl; rw [add_field _ _ 3 (by omega)] at hv256_3; replace hv256_3 := Option.some.inj (hv256_3.symm.trans hx256_3); injection hv256_3 with hva_ hvn_ hvc_; rw [hva_] at ge256_3; rw [hvc_] at ul256_3; have HL256_3 := Aside0.mk (show Kd.V k26 26 _ w.heap.size _ _ ((rd_T26 x251003_1 x11_3).f2) from Kd.V_mk ul256_3 ge256_3); clear hva_ hvn_ hvc_ ge256_3 ul256_3 hcc256 hce256; have HR256_3 := Aside0.mk hi256_3; have HC256_3 := Aside0.mk hl256_3; clear hi256_3 hl256_3; replace p256 := eq_true p256; replace q256 := eq_true q256
           go_wp2_with (first | ((with_reducible refine zG 21 rfl ?_); refine zg 58 Try.func21 ((marginaliaref05_Width.calls k3 ((rd_T26 x251003_1 x11_3).f0) ((rd_T26 x251003_1 x11_3).f1.f0) ((rd_T26 x251003_1 x11_3).f1.f1) _ _ ((rd_T26 x251003_1 x11_3).f2) t257 _ ?side1 ?side2 A40.out).mono ?_); (case side1 => exact (zE HR256_3)); (case side2 => exact HC256_3.out); rintro e w42 ⟨rfl, hb⟩; refine ⟨_, rfl, ?_⟩; replace HO_6 := (zRb HO_6 hb); replace HO_251003 := (zVb HO_251003 hb); replace HL256_3 := (zVb HL256_3 hb); replace BK250 := (zK BK250 hb); replace HR256_3 := Aside0.mk (Kd.C_below (zE HR256_3) hb); replace HB := (zB hb); (try clear hb); (try clear hb2); (try clear hk); (try clear hi)))
           go_roundg k3
           case measure => have := HK1.out; have := HK2.out; have := HK3.out; omega
           case rel => exact ⟨(wrap64 (x1_3 - t257)), (wrap64 (x11_3 + 1)), zs, zs, H', ⟨by have := HK1.out; have := HK2.out; have := HK3.out; omega⟩, ⟨by (with_reducible repeat (first | apply Kd.R_alloc | apply Kd.R_drewN | apply Kd.R_drew)); exact HO_6.out⟩, ⟨by (with_reducible repeat (first | apply Kd.V_alloc | apply Kd.V_drewN | apply Kd.V_drew)); exact HO_251003.out⟩, (zA BK250), ⟨zb⟩⟩
          ·rw [if_neg c37] at H; have c37b0 := decide_eq_false c37; clear c37; replace H := zi H; obtain ⟨c43, H⟩ := H; have LMc43 := Aside0.mk c43; clear c43
           obtain ⟨y258, hy258⟩ : ∃ y_ : List Int, y_ = (x6_1 ++ [x7_2]) := ⟨_, rfl⟩
           replace H : (if 0 ≤ x7_2 then (if x7_2 < (x251003_1.length : Int) then (marginaliaref05_Find.l0 k3 x1_3 y258 ((rd_T26 x251003_1 x7_2).f0) ((rd_T26 x251003_1 x7_2).f1.f0) ((rd_T26 x251003_1 x7_2).f1.f1) ((rd_T26 x251003_1 x7_2).f2)) else (none)) else (none)) = some (r1, r2) := by first | (rw [hy258]; with_reducible exact H) | (have H2_ := (Option.bind_some _ _).symm.trans H; rw [hy258]; with_reducible exact H2_) | (have H2_ := (Option.bind_some _ _).symm.trans H; with_reducible exact H2_) | with_reducible exact H | (rw [hy258]; exact H) | exact H
           have Ny258 := Aside0.mk hy258; clear hy258; replace H := zi1 H; obtain ⟨c44b0, H⟩ := H; replace H := zi1 H; obtain ⟨c45b0, H⟩ := H; have H' := Aside0.mk H; clear H
           go_wp2_with (first | ((with_reducible refine gate_builtin (b := .append) (xs := #[.tmp 60, .tmp 62]) rfl ?_); at_builtin; refine Kd.R_append (Kd.int .i64) (w0 := w) w.heap.size rfl (.tmp 60) (.tmp 62) 30 3 (.int .i64 0) 8 rfl Try.underlying30 info3 rfl (by decide) (by omega) u6 x6_1 x7_2 [.int .i64 x7_2] (fun k_ => (w.heap.size ≤ k_)) (fun _ => False) rfl rfl ?aP (fun _ hk => hk.elim) ?aF ?aO ?aB ?aS ?aL ?_; (case aP => exact rfl); (case aB => exact zb); (case aF => exact (fun k_ hk => (Nat.le_trans (below_size zb) hk))); (case aO => exact (zR HO_6)); (case aS => exact (below_size zb)); (case aL => have := LMc43.out; omega); intro v259 w46 ho hb hg hat; rw [← Ny258.out] at ho; replace HO_251003 := Aside0.mk (Kd.V_afterv (ok := (fun k_ => (P0_3_ k_ ∨ w.heap.size ≤ k_) ∧ k_ ≠ gb250)) (by (with_reducible repeat (first | apply Kd.V_alloc | apply Kd.V_drewN | apply Kd.V_drew)); exact Kd.V_mono HO_251003.out (fun _ hk => ⟨⟨hk.1, hk.2.2⟩, hk.2.1⟩)) hg hat); replace BK250 := (blk_grown' BK250 hg (Kd.R_ne HO_6.out BK250.out (by decide))); replace HB := Aside0.mk (hb); have HO260 := Aside0.mk (ho); clear HO_6 ho hb hg hat; obtain ⟨hcz47_0, hcz47_1, hcz47_2, hcz47_3⟩ := zc4 BK250; obtain ⟨hfz47_0, hfz47_1, hfz47_2, hfz47_3⟩ := zz4 BK250; have p261 : 0 ≤ (x7_2 : Int) := zt; have q261 : x7_2 < (x251003_1.length : Int) := zt; obtain ⟨ad261, A261_3, c261_3, e261, hx261_0, hx261_1, hx261_2, hx261_3, hl261_3, hi261_3⟩ := at_T26 (Kd.V_reads' HO_251003.out).2.2 x7_2 p261 q261; cases e261; obtain ⟨ce261, hce261, hMe261, hcc261⟩ := Kd.V_get HO_251003.out z26 x7_2 p261 (by first | exact q261 | exact zt | (have e_ := (Kd.V_reads' HO_251003.out).1; omega)); obtain ⟨ua261_3, uc261_3, rfl, ul261_3, ge261_3⟩ := k26_openF hMe261; have hv261_3 := hcc261 3 _ rfl; rw [add_field _ _ 3 (by omega)] at hv261_3; replace hv261_3 := Option.some.inj (hv261_3.symm.trans hx261_3); injection hv261_3 with hva_ hvn_ hvc_; rw [hva_] at ge261_3; rw [hvc_] at ul261_3; have HL261_3 := Aside0.mk (show Kd.V k26 26 _ w.heap.size _ _ ((rd_T26 x251003_1 x7_2).f2) from Kd.V_mk ul261_3 ge261_3); clear hva_ hvn_ hvc_ ge261_3 ul261_3 hcc261 hce261; have HR261_3 := Aside0.mk hi261_3; have HC261_3 := Aside0.mk hl261_3; clear hi261_3 hl261_3; replace p261 := eq_true p261; replace q261 := eq_true q261))
           go_roundg k3
           case measure => have := HK1.out; have := HK2.out; have := HK3.out; omega
           case rel => exact ⟨(x1_3), (y258), ((rd_T26 x251003_1 x7_2).f0), ((rd_T26 x251003_1 x7_2).f1.f0), ((rd_T26 x251003_1 x7_2).f1.f1), ((rd_T26 x251003_1 x7_2).f2), (.slice A261_3 ((rd_T26 x251003_1 x7_2).f2).length c261_3), zs, H', ⟨by have := HK1.out; have := HK2.out; have := HK3.out; omega⟩, ⟨by (with_reducible repeat (first | apply Kd.R_alloc | apply Kd.R_drewN | apply Kd.R_drew)); exact Kd.R_mono (zF4 gb250 (Kd.R_types HO260.out BK250.out (by decide)) (fun _ hk => hk.2)) (fun _ hk => hk.1)⟩, ⟨by (with_reducible repeat (first | apply Kd.V_alloc | apply Kd.V_drewN | apply Kd.V_drew)); exact Kd.V_mono (Kd.V_far (p := ⟨gb250, 3, none⟩) (Kd.V_far (p := ⟨gb250, 2, none⟩) (Kd.V_far (p := ⟨gb250, 1, none⟩) (Kd.V_far (p := ⟨gb250, 0, none⟩) (Kd.V_mono HL261_3.out (fun k_ hk => (⟨hk, hk.1.2⟩ : _ ∧ k_ ≠ gb250))) (fun _ hk => hk.2) (.int .i64 ((rd_T26 x251003_1 x7_2).f0))) (fun _ hk => hk.2) (.int .i64 ((rd_T26 x251003_1 x7_2).f1.f0))) (fun _ hk => hk.2) (.string ((rd_T26 x251003_1 x7_2).f1.f1))) (fun _ hk => hk.2) (.slice A261_3 ((rd_T26 x251003_1 x7_2).f2).length c261_3)) (fun _ hk => ⟨hk.1.1.1, ⟨hk.1.2, hk.1.1.2⟩⟩)⟩, ⟨zw⟩, ⟨zb⟩⟩

end Go.Proofs.Ytnafnieocpkkhaa.P

namespace Go.Proofs.Ytnafnieocpkkhaa.P
open Go.RowKit Go.Proofs.YtnafnieocpkkhaaW.PrintWords Go.Proofs.YtnafnieocpkkhaaW.PrintLast Go.Proofs.YtnafnieocpkkhaaW.PrintMore
attribute [local go_sem] max2_int min2_int max_two min_two max_three min_three max_four min_four
set_option linter.unusedVariables false
set_option linter.unusedSimpArgs false

/-! ### marginaliaref05_Cover: function 24 -/
mutual
def marginaliaref05_Cover.l0 : Nat → List Int → Int → Int → Int → ByteArray → List (S26) → Int → Int → Option (List Int)
 | 0, _, _, _, _, _, _, _, _ => none
 | k + 1, x5, x6, x263000, x263001, x263002, x263003, x264000, x264001 => marginaliaref05_Cover.l1 k x5 (-1) x6 0 0 x263000 x263001 x263002 x263003 x264000 x264001
def marginaliaref05_Cover.l1 : Nat → List Int → Int → Int → Int → Int → Int → Int → ByteArray → List (S26) → Int → Int → Option (List Int)
 | 0, _, _, _, _, _, _, _, _, _, _, _ => none
 | k + 1, x5, x7, x8, x9, x10, x263000, x263001, x263002, x263003, x264000, x264001 => if x10 < (x263003.length : Int) then (if 0 ≤ x10 then ((marginaliaref05_Width.f k ((rd_T26 x263003 x10).f0) ((rd_T26 x263003 x10).f1.f0) ((rd_T26 x263003 x10).f1.f1) ((rd_T26 x263003 x10).f2)).bind fun t265 => (if x8 ≤ x264000 then (if x264001 ≤ (wrap64 (x8 + t265)) then (marginaliaref05_Cover.l1 k x5 x10 (wrap64 (x8 + t265)) x8 (wrap64 (x10 + 1)) x263000 x263001 x263002 x263003 x264000 x264001) else (marginaliaref05_Cover.l1 k x5 x7 (wrap64 (x8 + t265)) x9 (wrap64 (x10 + 1)) x263000 x263001 x263002 x263003 x264000 x264001)) else (marginaliaref05_Cover.l1 k x5 x7 (wrap64 (x8 + t265)) x9 (wrap64 (x10 + 1)) x263000 x263001 x263002 x263003 x264000 x264001))) else (none)) else (if x7 < 0 then (some x5) else (if x5.length < 17592186044416 then (if 0 ≤ x7 then (if x7 < (x263003.length : Int) then (marginaliaref05_Cover.l0 k (x5 ++ [x7]) x9 ((rd_T26 x263003 x7).f0) ((rd_T26 x263003 x7).f1.f0) ((rd_T26 x263003 x7).f1.f1) ((rd_T26 x263003 x7).f2) x264000 x264001) else (none)) else (none)) else (none)))
end
def marginaliaref05_Cover.f (k : Nat) (a0_0 : Int) (a0_1 : Int) (a0_2 : ByteArray) (l0_3 : List (S26)) (a1_0 : Int) (a1_1 : Int) : Option (List Int) := marginaliaref05_Cover.l0 k ([] : List Int) 0 a0_0 a0_1 a0_2 l0_3 a1_0 a1_1
set_option maxHeartbeats 8000000 in
set_option maxRecDepth 100000 in
theorem marginaliaref05_Cover.calls (k : Nat) (a0_0 : Int) (a0_1 : Int) (a0_2 : ByteArray) (P0_3_ : Nat → Prop) (A0_3 : Option Addr) (c0_3 : Nat) (l0_3 : List (S26)) (a1_0 : Int) (a1_1 : Int) (r : List Int) (w : World) (hs0_3 : Kd.V k26 26 w w.heap.size (fun k_ => P0_3_ k_) (.slice A0_3 l0_3.length c0_3) l0_3) (h : marginaliaref05_Cover.f k a0_0 a0_1 a0_2 l0_3 a1_0 a1_1 = some r) :
  Calls Try.prog 24 #[.agg #[.int .i64 a0_0, .int .i64 a0_1, .string a0_2, .slice A0_3 l0_3.length c0_3], .agg #[.int .i64 a1_0, .int .i64 a1_1]] w fun e w' => ∃ v0_ : Value, e = .returned (v0_) ∧ Kd.R (Kd.int .i64) 3 w' w.heap.size (fun k_ => (w.heap.size ≤ k_)) v0_ r ∧ Below w.heap.size w w' := by
 have hu26 := Try.underlying26; have hu28 := Try.underlying28; have HO0_3 := Aside0.mk (show Kd.V k26 26 w w.heap.size (fun k_ => (P0_3_ k_ ∨ w.heap.size ≤ k_)) (.slice A0_3 l0_3.length c0_3) l0_3 from Kd.V_mono hs0_3 (fun k_ hk => .inl hk)); have HB := Aside0.mk (Below.refl w.heap.size w); have H : (marginaliaref05_Cover.l0 k ([] : List Int) 0 a0_0 a0_1 a0_2 l0_3 a1_0 a1_1) = some r := h; clear h; have H' := Aside0.mk H; clear H; go_enter Try.func24, Try.ntmps24
 go_wp2_with (first | ((with_reducible refine zD 2 rfl ?_); refine zx 2 #[.int .i64 a0_0, .int .i64 a0_1, .string a0_2, .slice A0_3 l0_3.length c0_3] 26 ?_; intro gb262 hg w3 hbox hb; replace HO0_3 := Aside0.mk (Kd.V_below (Kd.V_elderB (zV HO0_3) gb262 (Nat.le_of_eq hg.symm)) hb); have BK262 := Aside0.mk (hbox); have GW262 := (zq hg : Aside0 (w.heap.size ≤ gb262)); have GE262 := GW262; replace HB := (zB hb); clear hb hbox hg) | ((with_reducible refine zD 3 rfl ?_); refine zx 3 #[.int .i64 a1_0, .int .i64 a1_1] 28 ?_; intro gb263 hg w4 hbox hb; replace HO0_3 := Aside0.mk (Kd.V_below (Kd.V_elderB (zV HO0_3) gb263 (Nat.le_of_eq hg.symm)) hb); have BK263 := Aside0.mk (hbox); have GW263 := (zq hg : Aside0 (w.heap.size ≤ gb263)); have GE263 := GW263; replace HB := (zB hb); have NB262_263 := (zl hg BK262 : Aside0 (gb262 ≠ gb263)); have NB263_262 := (zl' hg BK262 : Aside0 (gb263 ≠ gb262)); replace BK262 := (zK BK262 hb); clear hb hbox hg))
 go_loopg [5, 6] k (fun kq v5 v6 w' => ∃ (x5_1 : List Int) (x6_1 : Int) (x263000_1 : Int) (x263001_1 : Int) (x263002_1 : ByteArray) (x263003_1 : List (S26)) (u263003 : Value), v6 = .int .i64 x6_1 ∧ Aside0 (marginaliaref05_Cover.l0 kq x5_1 x6_1 x263000_1 x263001_1 x263002_1 x263003_1 a1_0 a1_1 = some r) ∧ Aside0 (kq ≤ k) ∧ Aside0 (Kd.R (Kd.int .i64) 3 w' w.heap.size (fun k_ => (w.heap.size ≤ k_)) v5 x5_1) ∧ Aside0 (Kd.V k26 26 w' w.heap.size (fun k_ => (P0_3_ k_ ∨ w.heap.size ≤ k_) ∧ some k_ ≠ (v5 : Value).ownBlock ∧ k_ ≠ gb262 ∧ k_ ≠ gb263) u263003 x263003_1) ∧ Aside0 (w'.heap[gb262]? = some (.cells #[.int .i64 x263000_1, .int .i64 x263001_1, .string x263002_1, u263003] 26 (0, 0))) ∧ Aside0 (w'.heap[gb263]? = some (.cells #[.int .i64 a1_0, .int .i64 a1_1] 28 (0, 0))) ∧ Aside0 (Below w.heap.size w w'))
 case atStart => exact ⟨(([] : List Int)), (0), (a0_0), (a0_1), (a0_2), (l0_3), (.slice A0_3 l0_3.length c0_3), zs, H', ⟨Nat.le_refl _⟩, ⟨by first | exact Kd.R_nil _ _ _ _ _ | exact Kd.N_nil _ _ _ _ _ | exact Kd.V_nil _ _ _ _ _ | exact Kd.Q_nil _ _ _ _ _ | exact Kd.S_nil _ _ _ _ _⟩, ⟨by (with_reducible repeat (first | apply Kd.V_alloc | apply Kd.V_drewN | apply Kd.V_drew)); exact Kd.V_mono HO0_3.out (fun _ hk => ⟨hk.1.1, ⟨(by simp [Value.ownBlock]), ⟨hk.1.2, hk.2⟩⟩⟩)⟩, (zA BK262), (zA BK263), ⟨zb⟩⟩
 case round =>
  clear H'; obtain ⟨x5_1, x6_1, x263000_1, x263001_1, x263002_1, x263003_1, u263003, rfl, HA, HK1, HO_5, HO_263003, BK262, BK263, HB⟩ := hrel
  cases gk with
  | zero => exact absurd HA.out (by simp [marginaliaref05_Cover.l0])
  | succ k1 =>
   have H := HA.out; clear HA; simp only [marginaliaref05_Cover.l0] at H; have H' := Aside0.mk H; clear H; go_wp2
   go_loopg [7, 8, 9, 10] k1 (fun kq v7 v8 v9 v10 w' => ∃ (x7_2 : Int) (x8_2 : Int) (x9_2 : Int) (x10_2 : Int), v7 = .int .i64 x7_2 ∧ v8 = .int .i64 x8_2 ∧ v9 = .int .i64 x9_2 ∧ v10 = .int .i64 x10_2 ∧ Aside0 (marginaliaref05_Cover.l1 kq x5_1 x7_2 x8_2 x9_2 x10_2 x263000_1 x263001_1 x263002_1 x263003_1 a1_0 a1_1 = some r) ∧ Aside0 (kq ≤ k1) ∧ Aside0 (Kd.R (Kd.int .i64) 3 w' w.heap.size (fun k_ => (w.heap.size ≤ k_)) u5 x5_1) ∧ Aside0 (Kd.V k26 26 w' w.heap.size (fun k_ => (P0_3_ k_ ∨ w.heap.size ≤ k_) ∧ some k_ ≠ (u5 : Value).ownBlock ∧ k_ ≠ gb262 ∧ k_ ≠ gb263) u263003 x263003_1) ∧ Aside0 (w'.heap[gb262]? = some (.cells #[.int .i64 x263000_1, .int .i64 x263001_1, .string x263002_1, u263003] 26 (0, 0))) ∧ Aside0 (w'.heap[gb263]? = some (.cells #[.int .i64 a1_0, .int .i64 a1_1] 28 (0, 0))) ∧ Aside0 (Below w.heap.size w w'))
   case atStart => exact ⟨((-1)), (x6_1), (0), (0), zs, zs, zs, zs, H', ⟨Nat.le_refl _⟩, ⟨by (with_reducible repeat (first | apply Kd.R_alloc | apply Kd.R_drewN | apply Kd.R_drew)); exact HO_5.out⟩, ⟨by (with_reducible repeat (first | apply Kd.V_alloc | apply Kd.V_drewN | apply Kd.V_drew)); exact HO_263003.out⟩, (zA BK262), (zA BK263), ⟨zb⟩⟩
   case round =>
    clear H'; obtain ⟨x7_2, x8_2, x9_2, x10_2, rfl, rfl, rfl, rfl, HA, HK2, HO_5, HO_263003, BK262, BK263, HB⟩ := hrel
    cases gk with
    | zero => exact absurd HA.out (by simp [marginaliaref05_Cover.l1])
    | succ k2 =>
     have H := HA.out; clear HA; simp only [marginaliaref05_Cover.l1] at H; by_cases c5 : x10_2 < (x263003_1.length : Int)
     ·rw [if_pos c5] at H; have c5b0 := decide_eq_true c5; clear c5; replace H := zi1 H; obtain ⟨c6b0, H⟩ := H; replace H := zo H; obtain ⟨t265, A7, H⟩ := H; by_cases c8 : x8_2 ≤ a1_0
      ·rw [if_pos c8] at H; have c8b0 := decide_eq_true c8; clear c8; by_cases c9 : a1_1 ≤ (wrap64 (x8_2 + t265))
       ·rw [if_pos c9] at H; have c9b0 := decide_eq_true c9; clear c9; have H' := Aside0.mk H; clear H; have hnb10 := NB262_263.out; have hnc10 := NB263_262.out; obtain ⟨hcz11_0, hcz11_1, hcz11_2, hcz11_3⟩ := zc4 BK262; obtain ⟨hfz11_0, hfz11_1, hfz11_2, hfz11_3⟩ := zz4 BK262; obtain ⟨Ao12, co12, eo12⟩ := Kd.V_slice HO_263003.out; subst eo12; have p264 : 0 ≤ (x10_2 : Int) := zt; have q264 : x10_2 < (x263003_1.length : Int) := zt; obtain ⟨ad264, A264_3, c264_3, e264, hx264_0, hx264_1, hx264_2, hx264_3, hl264_3, hi264_3⟩ := at_T26 (Kd.V_reads' HO_263003.out).2.2 x10_2 p264 q264
        cases e264
        obtain ⟨ce264, hce264, hMe264, hcc264⟩ := Kd.V_get HO_263003.out z26 x10_2 p264 (by first | exact q264 | exact zt | (have e_ := (Kd.V_reads' HO_263003.out).1; omega)); obtain ⟨ua264_3, uc264_3, rfl, ul264_3, ge264_3⟩ := k26_openF hMe264; have hv264_3 := hcc264 3 _ rfl; rw [add_field _ _ 3 (by omega)] at hv264_3; replace hv264_3 := Option.some.inj (hv264_3.symm.trans hx264_3); injection hv264_3 with hva_ hvn_ hvc_; rw [hva_] at ge264_3; rw [hvc_] at ul264_3; have HL264_3 := Aside0.mk (show Kd.V k26 26 _ w.heap.size _ _ ((rd_T26 x263003_1 x10_2).f2) from Kd.V_mk ul264_3 ge264_3); clear hva_ hvn_ hvc_ ge264_3 ul264_3 hcc264 hce264; have HR264_3 := Aside0.mk hi264_3; have HC264_3 := Aside0.mk hl264_3; clear hi264_3 hl264_3; replace p264 := eq_true p264; replace q264 := eq_true q264
        go_wp2_with (first | ((with_reducible refine zG 21 rfl ?_); refine zg 25 Try.func21 ((marginaliaref05_Width.calls k2 ((rd_T26 x263003_1 x10_2).f0) ((rd_T26 x263003_1 x10_2).f1.f0) ((rd_T26 x263003_1 x10_2).f1.f1) _ _ ((rd_T26 x263003_1 x10_2).f2) t265 _ ?side1 ?side2 A7.out).mono ?_); (case side1 => exact (zE HR264_3)); (case side2 => exact HC264_3.out); rintro e w13 ⟨rfl, hb⟩; refine ⟨_, rfl, ?_⟩; replace HO_5 := (zRb HO_5 hb); replace HO_263003 := (zVb HO_263003 hb); replace HL264_3 := (zVb HL264_3 hb); replace BK262 := (zK BK262 hb); replace BK263 := (zK BK263 hb); replace HR264_3 := Aside0.mk (Kd.C_below (zE HR264_3) hb); replace HB := (zB hb); (try clear hb); (try clear hb2); (try clear hk); (try clear hi); obtain ⟨hcz14_0, hcz14_1⟩ := zc2 BK263; obtain ⟨hfz14_0, hfz14_1⟩ := zz2 BK263))
        go_roundg k2
        case measure => have := HK1.out; have := HK2.out; omega
        case rel => exact ⟨(x10_2), (wrap64 (x8_2 + t265)), (x8_2), (wrap64 (x10_2 + 1)), zs, zs, zs, zs, H', ⟨by have := HK1.out; have := HK2.out; omega⟩, ⟨by (with_reducible repeat (first | apply Kd.R_alloc | apply Kd.R_drewN | apply Kd.R_drew)); exact HO_5.out⟩, ⟨by (with_reducible repeat (first | apply Kd.V_alloc | apply Kd.V_drewN | apply Kd.V_drew)); exact HO_263003.out⟩, (zA BK262), (zA BK263), ⟨zb⟩⟩
       ·rw [if_neg c9] at H; have c9b0 := decide_eq_false c9; clear c9; have H' := Aside0.mk H; clear H; have hnb15 := NB262_263.out; have hnc15 := NB263_262.out; obtain ⟨hcz16_0, hcz16_1, hcz16_2, hcz16_3⟩ := zc4 BK262; obtain ⟨hfz16_0, hfz16_1, hfz16_2, hfz16_3⟩ := zz4 BK262; obtain ⟨Ao17, co17, eo17⟩ := Kd.V_slice HO_263003.out; subst eo17; have p264 : 0 ≤ (x10_2 : Int) := zt; have q264 : x10_2 < (x263003_1.length : Int) := zt; obtain ⟨ad264, A264_3, c264_3, e264, hx264_0, hx264_1, hx264_2, hx264_3, hl264_3, hi264_3⟩ := at_T26 (Kd.V_reads' HO_263003.out).2.2 x10_2 p264 q264
        cases e264
        obtain ⟨ce264, hce264, hMe264, hcc264⟩ := Kd.V_get HO_263003.out z26 x10_2 p264 (by first | exact q264 | exact zt | (have e_ := (Kd.V_reads' HO_263003.out).1; omega)); obtain ⟨ua264_3, uc264_3, rfl, ul264_3, ge264_3⟩ := k26_openF hMe264; have hv264_3 := hcc264 3 _ rfl; rw [add_field _ _ 3 (by omega)] at hv264_3; replace hv264_3 := Option.some.inj (hv264_3.symm.trans hx264_3); injection hv264_3 with hva_ hvn_ hvc_; rw [hva_] at ge264_3; rw [hvc_] at ul264_3; have HL264_3 := Aside0.mk (show Kd.V k26 26 _ w.heap.size _ _ ((rd_T26 x263003_1 x10_2).f2) from Kd.V_mk ul264_3 ge264_3); clear hva_ hvn_ hvc_ ge264_3 ul264_3 hcc264 hce264; have HR264_3 := Aside0.mk hi264_3; have HC264_3 := Aside0.mk hl264_3; clear hi264_3 hl264_3; replace p264 := eq_true p264; replace q264 := eq_true q264
        go_wp2_with (first | ((with_reducible refine zG 21 rfl ?_); refine zg 25 Try.func21 ((marginaliaref05_Width.calls k2 ((rd_T26 x263003_1 x10_2).f0) ((rd_T26 x263003_1 x10_2).f1.f0) ((rd_T26 x263003_1 x10_2).f1.f1) _ _ ((rd_T26 x263003_1 x10_2).f2) t265 _ ?side1 ?side2 A7.out).mono ?_); (case side1 => exact (zE HR264_3)); (case side2 => exact HC264_3.out); rintro e w18 ⟨rfl, hb⟩; refine ⟨_, rfl, ?_⟩; replace HO_5 := (zRb HO_5 hb); replace HO_263003 := (zVb HO_263003 hb); replace HL264_3 := (zVb HL264_3 hb); replace BK262 := (zK BK262 hb); replace BK263 := (zK BK263 hb); replace HR264_3 := Aside0.mk (Kd.C_below (zE HR264_3) hb); replace HB := (zB hb); (try clear hb); (try clear hb2); (try clear hk); (try clear hi); obtain ⟨hcz19_0, hcz19_1⟩ := zc2 BK263; obtain ⟨hfz19_0, hfz19_1⟩ := zz2 BK263))
        go_roundg k2
        case measure => have := HK1.out; have := HK2.out; omega
        case rel => exact ⟨(x7_2), (wrap64 (x8_2 + t265)), (x9_2), (wrap64 (x10_2 + 1)), zs, zs, zs, zs, H', ⟨by have := HK1.out; have := HK2.out; omega⟩, ⟨by (with_reducible repeat (first | apply Kd.R_alloc | apply Kd.R_drewN | apply Kd.R_drew)); exact HO_5.out⟩, ⟨by (with_reducible repeat (first | apply Kd.V_alloc | apply Kd.V_drewN | apply Kd.V_drew)); exact HO_263003.out⟩, (zA BK262), (zA BK263), ⟨zb⟩⟩
      ·rw [if_neg c8] at H; have c8b0 := decide_eq_false c8; clear c8; have H' := Aside0.mk H; clear H; have hnb20 := NB262_263.out; have hnc20 := NB263_262.out; obtain ⟨hcz21_0, hcz21_1, hcz21_2, hcz21_3⟩ := zc4 BK262; obtain ⟨hfz21_0, hfz21_1, hfz21_2, hfz21_3⟩ := zz4 BK262; obtain ⟨Ao22, co22, eo22⟩ := Kd.V_slice HO_263003.out; subst eo22; have p264 : 0 ≤ (x10_2 : Int) := zt; have q264 : x10_2 < (x263003_1.length : Int) := zt; obtain ⟨ad264, A264_3, c264_3, e264, hx264_0, hx264_1, hx264_2, hx264_3, hl264_3, hi264_3⟩ := at_T26 (Kd.V_reads' HO_263003.out).2.2 x10_2 p264 q264
       cases e264
       obtain ⟨ce264, hce264, hMe264, hcc264⟩ := Kd.V_get HO_263003.out z26 x10_2 p264 (by first | exact q264 | exact zt | (have e_ := (Kd.V_reads' HO_263003.out).1; omega)); obtain ⟨ua264_3, uc264_3, rfl, ul264_3, ge264_3⟩ := k26_openF hMe264; have hv264_3 := hcc264 3 _ rfl; rw [add_field _ _ 3 (by omega)] at hv264_3; replace hv264_3 := Option.some.inj (hv264_3.symm.trans hx264_3); injection hv264_3 with hva_ hvn_ hvc_; rw [hva_] at ge264_3; rw [hvc_] at ul264_3; have HL264_3 := Aside0.mk (show Kd.V k26 26 _ w.heap.size _ _ ((rd_T26 x263003_1 x10_2).f2) from Kd.V_mk ul264_3 ge264_3); clear hva_ hvn_ hvc_ ge264_3 ul264_3 hcc264 hce264; have HR264_3 := Aside0.mk hi264_3; have HC264_3 := Aside0.mk hl264_3; clear hi264_3 hl264_3; replace p264 := eq_true p264; replace q264 := eq_true q264
       go_wp2_with (first | ((with_reducible refine zG 21 rfl ?_); refine zg 25 Try.func21 ((marginaliaref05_Width.calls k2 ((rd_T26 x263003_1 x10_2).f0) ((rd_T26 x263003_1 x10_2).f1.f0) ((rd_T26 x263003_1 x10_2).f1.f1) _ _ ((rd_T26 x263003_1 x10_2).f2) t265 _ ?side1 ?side2 A7.out).mono ?_); (case side1 => exact (zE HR264_3)); (case side2 => exact HC264_3.out); rintro e w23 ⟨rfl, hb⟩; refine ⟨_, rfl, ?_⟩; replace HO_5 := (zRb HO_5 hb); replace HO_263003 := (zVb HO_263003 hb); replace HL264_3 := (zVb HL264_3 hb); replace BK262 := (zK BK262 hb); replace BK263 := (zK BK263 hb); replace HR264_3 := Aside0.mk (Kd.C_below (zE HR264_3) hb); replace HB := (zB hb); (try clear hb); (try clear hb2); (try clear hk); (try clear hi); obtain ⟨hcz24_0, hcz24_1⟩ := zc2 BK263; obtain ⟨hfz24_0, hfz24_1⟩ := zz2 BK263))
       go_roundg k2
       case measure => have := HK1.out; have := HK2.out; omega
       case rel => exact ⟨(x7_2), (wrap64 (x8_2 + t265)), (x9_2), (wrap64 (x10_2 + 1)), zs, zs, zs, zs, H', ⟨by have := HK1.out; have := HK2.out; omega⟩, ⟨by (with_reducible repeat (first | apply Kd.R_alloc | apply Kd.R_drewN | apply Kd.R_drew)); exact HO_5.out⟩, ⟨by (with_reducible repeat (first | apply Kd.V_alloc | apply Kd.V_drewN | apply Kd.V_drew)); exact HO_263003.out⟩, (zA BK262), (zA BK263), ⟨zb⟩⟩
     ·rw [if_neg c5] at H; have c5b0 := decide_eq_false c5; clear c5; by_cases c25 : x7_2 < 0
      ·rw [if_pos c25] at H; have c25b0 := decide_eq_true c25; clear c25; obtain rfl := Option.some.inj H; have hnb26 := NB262_263.out; have hnc26 := NB263_262.out; obtain ⟨hcz27_0, hcz27_1, hcz27_2, hcz27_3⟩ := zc4 BK262; obtain ⟨hfz27_0, hfz27_1, hfz27_2, hfz27_3⟩ := zz4 BK262; obtain ⟨Ao28, co28, eo28⟩ := Kd.V_slice HO_263003.out; subst eo28; go_wp2; go_ret; exact ⟨_, zr, by (with_reducible repeat (first | apply Kd.R_alloc | apply Kd.R_drewN | apply Kd.R_drew)); exact HO_5.out, zb⟩
      ·rw [if_neg c25] at H; have c25b0 := decide_eq_false c25; clear c25; replace H := zi H; obtain ⟨c29, H⟩ := H; have LMc29 := Aside0.mk c29; clear c29
       obtain ⟨y266, hy266⟩ : ∃ y_ : List Int, y_ = (x5_1 ++ [x7_2]) := ⟨_, rfl⟩
       replace H : (if 0 ≤ x7_2 then (if x7_2 < (x263003_1.length : Int) then (marginaliaref05_Cover.l0 k2 y266 x9_2 ((rd_T26 x263003_1 x7_2).f0) ((rd_T26 x263003_1 x7_2).f1.f0) ((rd_T26 x263003_1 x7_2).f1.f1) ((rd_T26 x263003_1 x7_2).f2) a1_0 a1_1) else (none)) else (none)) = some r := by first | (rw [hy266]; with_reducible exact H) | (have H2_ := (Option.bind_some _ _).symm.trans H; rw [hy266]; with_reducible exact H2_) | (have H2_ := (Option.bind_some _ _).symm.trans H; with_reducible exact H2_) | with_reducible exact H | (rw [hy266]; exact H) | exact H
       have Ny266 := Aside0.mk hy266; clear hy266; replace H := zi1 H; obtain ⟨c30b0, H⟩ := H; replace H := zi1 H; obtain ⟨c31b0, H⟩ := H; have H' := Aside0.mk H; clear H; have hnb32 := NB262_263.out; have hnc32 := NB263_262.out; obtain ⟨hcz33_0, hcz33_1, hcz33_2, hcz33_3⟩ := zc4 BK262; obtain ⟨hfz33_0, hfz33_1, hfz33_2, hfz33_3⟩ := zz4 BK262; obtain ⟨Ao34, co34, eo34⟩ := Kd.V_slice HO_263003.out; subst eo34
       go_wp2_with (first | ((with_reducible refine gate_builtin (b := .append) (xs := #[.tmp 46, .tmp 48]) rfl ?_); at_builtin; refine Kd.R_append (Kd.int .i64) (w0 := w) w.heap.size rfl (.tmp 46) (.tmp 48) 30 3 (.int .i64 0) 8 rfl Try.underlying30 info3 rfl (by decide) (by omega) u5 x5_1 x7_2 [.int .i64 x7_2] (fun k_ => (w.heap.size ≤ k_)) (fun _ => False) rfl rfl ?aP (fun _ hk => hk.elim) ?aF ?aO ?aB ?aS ?aL ?_; (case aP => exact rfl); (case aB => exact zb); (case aF => exact (fun k_ hk => (Nat.le_trans (below_size zb) hk))); (case aO => exact (zR HO_5)); (case aS => exact (below_size zb)); (case aL => have := LMc29.out; omega); intro v267 w35 ho hb hg hat; rw [← Ny266.out] at ho; replace HO_263003 := Aside0.mk (Kd.V_afterv (ok := (fun k_ => (P0_3_ k_ ∨ w.heap.size ≤ k_) ∧ k_ ≠ gb262 ∧ k_ ≠ gb263)) (by (with_reducible repeat (first | apply Kd.V_alloc | apply Kd.V_drewN | apply Kd.V_drew)); exact Kd.V_mono HO_263003.out (fun _ hk => ⟨⟨hk.1, ⟨hk.2.2.1, hk.2.2.2⟩⟩, hk.2.1⟩)) hg hat); replace BK262 := (blk_grown' BK262 hg (Kd.R_ne HO_5.out BK262.out (by decide))); replace BK263 := (blk_grown' BK263 hg (Kd.R_ne HO_5.out BK263.out (by decide))); replace HB := Aside0.mk (hb); have HO268 := Aside0.mk (ho); clear HO_5 ho hb hg hat; obtain ⟨hcz36_0, hcz36_1, hcz36_2, hcz36_3⟩ := zc4 BK262; obtain ⟨hfz36_0, hfz36_1, hfz36_2, hfz36_3⟩ := zz4 BK262; have p269 : 0 ≤ (x7_2 : Int) := zt; have q269 : x7_2 < (x263003_1.length : Int) := zt; obtain ⟨ad269, A269_3, c269_3, e269, hx269_0, hx269_1, hx269_2, hx269_3, hl269_3, hi269_3⟩ := at_T26 (Kd.V_reads' HO_263003.out).2.2 x7_2 p269 q269; cases e269; obtain ⟨ce269, hce269, hMe269, hcc269⟩ := Kd.V_get HO_263003.out z26 x7_2 p269 (by first | exact q269 | exact zt | (have e_ := (Kd.V_reads' HO_263003.out).1; omega)); obtain ⟨ua269_3, uc269_3, rfl, ul269_3, ge269_3⟩ := k26_openF hMe269; have hv269_3 := hcc269 3 _ rfl; rw [add_field _ _ 3 (by omega)] at hv269_3; replace hv269_3 := Option.some.inj (hv269_3.symm.trans hx269_3); injection hv269_3 with hva_ hvn_ hvc_; rw [hva_] at ge269_3; rw [hvc_] at ul269_3; have HL269_3 := Aside0.mk (show Kd.V k26 26 _ w.heap.size _ _ ((rd_T26 x263003_1 x7_2).f2) from Kd.V_mk ul269_3 ge269_3); clear hva_ hvn_ hvc_ ge269_3 ul269_3 hcc269 hce269; have HR269_3 := Aside0.mk hi269_3; have HC269_3 := Aside0.mk hl269_3; clear hi269_3 hl269_3; replace p269 := eq_true p269; replace q269 := eq_true q269))
       go_roundg k2
       case measure => have := HK1.out; have := HK2.out; omega
       case rel => exact ⟨(y266), (x9_2), ((rd_T26 x263003_1 x7_2).f0), ((rd_T26 x263003_1 x7_2).f1.f0), ((rd_T26 x263003_1 x7_2).f1.f1), ((rd_T26 x263003_1 x7_2).f2), (.slice A269_3 ((rd_T26 x263003_1 x7_2).f2).length c269_3), zs, H', ⟨by have := HK1.out; have := HK2.out; omega⟩, ⟨by (with_reducible repeat (first | apply Kd.R_alloc | apply Kd.R_drewN | apply Kd.R_drew)); exact Kd.R_mono (zF4 gb262 (Kd.R_types HO268.out BK262.out (by decide)) (fun _ hk => hk.2)) (fun _ hk => hk.1)⟩, ⟨by (with_reducible repeat (first | apply Kd.V_alloc | apply Kd.V_drewN | apply Kd.V_drew)); exact Kd.V_mono (Kd.V_far (p := ⟨gb262, 3, none⟩) (Kd.V_far (p := ⟨gb262, 2, none⟩) (Kd.V_far (p := ⟨gb262, 1, none⟩) (Kd.V_far (p := ⟨gb262, 0, none⟩) (Kd.V_mono HL269_3.out (fun k_ hk => (⟨hk, hk.1.2.1⟩ : _ ∧ k_ ≠ gb262))) (fun _ hk => hk.2) (.int .i64 ((rd_T26 x263003_1 x7_2).f0))) (fun _ hk => hk.2) (.int .i64 ((rd_T26 x263003_1 x7_2).f1.f0))) (fun _ hk => hk.2) (.string ((rd_T26 x263003_1 x7_2).f1.f1))) (fun _ hk => hk.2) (.slice A269_3 ((rd_T26 x263003_1 x7_2).f2).length c269_3)) (fun _ hk => ⟨hk.1.1.1, ⟨hk.1.2, ⟨hk.1.1.2.1, hk.1.1.2.2⟩⟩⟩)⟩, ⟨zw⟩, ⟨zw⟩, ⟨zb⟩⟩

end Go.Proofs.Ytnafnieocpkkhaa.P

set_option linter.unusedVariables false
set_option linter.unusedSimpArgs false
namespace Go.Proofs.Ytnafnieocpkkhaa.P
open Go.RowKit Go.Proofs.YtnafnieocpkkhaaW.PrintWords Go.Proofs.YtnafnieocpkkhaaW.PrintLast Go.Proofs.YtnafnieocpkkhaaW.PrintMore
abbrev Tk := S23
theorem Nd.eta (x : Nd) : (⟨x.f0, ⟨x.f1.f0, x.f1.f1⟩, x.f2⟩ : Nd) = x := by cases x; rfl
/-! ### Cut -/
theorem One_ev (kind : Int) (s : ByteArray) : ∃ t, marginaliaref03_One.f kind s = some (kind, t) ∧ t.size ≤ 20001 ∧ (s.size ≤ 20001 → t = s) := by
 unfold marginaliaref03_One.f; have h : mn (s.size : Int) 20001 = ((min s.size 20001 : Nat) : Int) := mn_nat s.size 20001; rw [h, if_pos (by omega), if_pos (by omega)]; refine ⟨_, rfl, ?_, fun hs => ?_⟩
 ·rw [ByteArray.size_extract]; omega
 ·rw [Int.toNat_natCast, Nat.min_eq_left hs]; exact ByteArray.extract_zero_size
theorem wds_append (l : List Nd) (x : Nd) : ((l ++ [x]).map wd).sum = (l.map wd).sum + wd x := by
 simp
theorem nds_append (l : List Nd) (x : Nd) : ((l ++ [x]).map nd).sum = (l.map nd).sum + nd x := by
 simp
def cutP (n : Nd) : Prop := ∀ left depth : Nat, 1 ≤ left → left ≤ 1000 → depth ≤ 1003 → ∃ m : Nd, Ev (fun k => marginaliaref05_cut.f k n.f0 n.f1.f0 n.f1.f1 n.f2 (left : Int) (depth : Int)) (m.f0, m.f1.f0, m.f1.f1, m.f2, ((left - nd m : Nat) : Int)) ∧ nd m ≤ left ∧ wd m ≤ 20001 * nd m
theorem cut_loop (n : Nd) (k0 : Int) (t : Tk) (ht : t.f1.size ≤ 20001) (left depth : Nat) (hl : left ≤ 1000) (hdep : depth ≤ 1003) : ∀ (r : List Nd) (i : Nat) (acc : List Nd), n.f2.drop i = r → acc.length = i → (∀ x ∈ r, cutP x) → (acc.map nd).sum + 1 ≤ left → (acc.map wd).sum ≤ 20001 * (acc.map nd).sum →
  ∃ m : Nd, Ev (fun k => marginaliaref05_cut.l0 k (depth : Int) ((left - 1 - (acc.map nd).sum : Nat) : Int) (i : Int) n.f0 n.f1.f0 n.f1.f1 n.f2 k0 t.f0 t.f1 acc) (m.f0, m.f1.f0, m.f1.f1, m.f2, ((left - nd m : Nat) : Int)) ∧ nd m ≤ left ∧ wd m ≤ 20001 * nd m := by
 intro r
 induction r with
 | nil =>
  intro i acc hd ha hx hn hw; have := le_of_nil hd; have e1 : nd ⟨k0, t, acc⟩ = 1 + (acc.map nd).sum := nd_eq _; have e2 : wd ⟨k0, t, acc⟩ = t.f1.size + (acc.map wd).sum := wd_eq _; refine ⟨⟨k0, t, acc⟩, Ev.shift ?_, by omega, by rw [e1, e2]; omega⟩; simp only [marginaliaref05_cut.l0]; refine Ev.neg (by omega) ?_; rw [show left - nd ⟨k0, t, acc⟩ = left - 1 - (acc.map nd).sum by omega]; exact Ev.now _
 | cons e r ih =>
  intro i acc hd ha hx hn hw; have hlt := lt_of_drop hd; have hal := len_le acc; have e1 : nd ⟨k0, t, acc⟩ = 1 + (acc.map nd).sum := nd_eq _; have e2 : wd ⟨k0, t, acc⟩ = t.f1.size + (acc.map wd).sum := wd_eq _
  have stop : ∃ m : Nd, Ev (fun k => some (k0, t.f0, t.f1, acc, ((left - 1 - (acc.map nd).sum : Nat) : Int))) (m.f0, m.f1.f0, m.f1.f1, m.f2, ((left - nd m : Nat) : Int)) ∧ nd m ≤ left ∧ wd m ≤ 20001 * nd m := by
   refine ⟨⟨k0, t, acc⟩, ?_, by omega, by rw [e1, e2]; omega⟩; rw [show left - nd ⟨k0, t, acc⟩ = left - 1 - (acc.map nd).sum by omega]; exact Ev.now _
  by_cases h1 : 0 < left - 1 - (acc.map nd).sum
  ·by_cases h2 : depth ≤ 1002
   ·obtain ⟨x, hx1, hx2, hx3⟩ := hx e List.mem_cons_self (left - 1 - (acc.map nd).sum) (depth + 1) (by omega) (by omega) (by omega); have hxp := nd_pos x; obtain ⟨m, hm, hm2⟩ := ih (i + 1) (acc ++ [x]) (drop_next hd) (by simp [ha]) (fun y hy => hx y (List.mem_cons_of_mem _ hy)) (by rw [nds_append]; omega) (by rw [nds_append, wds_append]; omega); refine ⟨m, Ev.shift ?_, hm2⟩; simp only [marginaliaref05_cut.l0]; rw [rd_nd hd, w64 (n := (depth : Int) + 1) (by omega) (by omega), w64 (n := (i : Int) + 1) (by omega) (by omega)]; refine Ev.pos (by omega) (Ev.pos (by omega) (Ev.pos (by omega) (Ev.pos (by omega) (Ev.bind (by exact_mod_cast hx1) ?_)))); refine Ev.pos (by omega) ?_; rw [show left - 1 - ((acc ++ [x]).map nd).sum = left - 1 - (acc.map nd).sum - nd x by rw [nds_append]; omega] at hm; simp only [Nd.eta]; exact hm
   ·obtain ⟨m, hm, hm2⟩ := stop; refine ⟨m, Ev.shift ?_, hm2⟩; simp only [marginaliaref05_cut.l0]; exact Ev.pos (by omega) (Ev.pos (by omega) (Ev.neg (by omega) hm))
  ·obtain ⟨m, hm, hm2⟩ := stop; refine ⟨m, Ev.shift ?_, hm2⟩; simp only [marginaliaref05_cut.l0]; exact Ev.pos (by omega) (Ev.neg (by omega) hm)
theorem cut_ev : ∀ n : Nd, cutP n := by
 refine Nd.ind ?_; intro n ih left depth h1 h2 h3; obtain ⟨t, ht, hz, _⟩ := One_ev n.f1.f0 n.f1.f1; obtain ⟨m, hm, hm2⟩ := cut_loop n n.f0 ⟨n.f1.f0, t⟩ hz left depth h2 h3 n.f2 0 [] rfl rfl ih (by simpa using h1) (by simp); refine ⟨m, Ev.shift ?_, hm2⟩; simp only [marginaliaref05_cut.f]; refine Ev.bind1 ht ?_; rw [w64 (n := (left : Int) - 1) (by omega) (by omega), show (left : Int) - 1 = ((left - 1 - (([] : List Nd).map nd).sum : Nat) : Int) by simp only [List.map_nil, List.sum_nil]; omega]; exact hm
/-- The law's cut: at most 600 leaves and nodes, with texts of at most 20001 bytes. -/
theorem lawcut_ev (n : Nd) : ∃ m : Nd, Ev (fun k => marginalialaw05_cut.f k n.f0 n.f1.f0 n.f1.f1 n.f2) (m.f0, m.f1.f0, m.f1.f1, m.f2) ∧ nd m ≤ 600 ∧ wd m ≤ 12000600 := by
 obtain ⟨m, h1, h2, h3⟩ := cut_ev n 600 0 (by omega) (by omega) (by omega); refine ⟨m, ?_, h2, by omega⟩; unfold marginalialaw05_cut.f marginaliaref05_Cut.f; exact Ev.bind (Ev.bind h1 (Ev.now _)) (Ev.now _)
/-! ### positions -/
def wds (l : List Nd) : Nat := (l.map wd).sum
theorem wds_take_succ {l : List Nd} {i : Nat} {x : Nd} (h : l[i]? = some x) : wds (l.take (i + 1)) = wds (l.take i) + wd x := by
 unfold wds; rw [List.take_add_one, h, List.map_append, List.sum_append]
 simp
theorem wds_take_le (l : List Nd) (i : Nat) : wds (l.take i) ≤ wds l := by
 unfold wds
 conv => rhs; rw [← List.take_append_drop i l, List.map_append, List.sum_append]
 omega
theorem wds_split {l : List Nd} {i : Nat} {x : Nd} (h : l[i]? = some x) : wds (l.take i) + wd x ≤ wds l := by
 rw [← wds_take_succ h]; exact wds_take_le l _
theorem wd_wds (n : Nd) : wd n = n.f1.f1.size + wds n.f2 := wd_eq n
/-- What is at a position, and where it begins. -/
def atp : List Int → Nd → Option (Nd × Nat)
 | [], n => some (n, 0)
 | i :: p, n => if 0 ≤ i then (n.f2[i.toNat]?).bind fun x => (atp p x).map fun y => (y.1, wds (n.f2.take i.toNat) + y.2) else none
theorem atp_fo : ∀ {p : List Int} {n x : Nd} {o m : Nat}, fo m n = true → atp p n = some (x, o) → ∃ m', fo m' x = true := by
 intro p
 induction p with
 | nil =>
  intro n x o m hs h; simp only [atp, Option.some.injEq, Prod.mk.injEq] at h; obtain ⟨rfl, rfl⟩ := h; exact ⟨m, hs⟩
 | cons i p ih =>
  intro n x o m hs h; rw [atp] at h
  split at h
  ·cases e : n.f2[i.toNat]? with
   | none => rw [e] at h; cases h
   | some y =>
    rw [e, Option.bind_some] at h
    cases e2 : atp p y with
    | none => rw [e2] at h; cases h
    | some z =>
     rw [e2] at h; simp only [Option.map_some, Option.some.injEq, Prod.mk.injEq] at h; obtain ⟨rfl, rfl⟩ := h; have hy := List.mem_of_getElem? e
     cases m with
     | zero => cases hs
     | succ m =>
      rw [fo] at hs
      split at hs
      ·rw [Bool.and_eq_true, decide_eq_true_eq] at hs; rw [List.eq_nil_of_length_eq_zero hs.1] at hy
       cases hy
      ·rw [Bool.and_eq_true] at hs; exact ih (List.all_eq_true.1 hs.2 y hy) e2
  ·cases h
theorem rd_at {l : List Nd} {i : Nat} {e : Nd} (h : l[i]? = some e) : rd_T26 l (i : Int) = e := by
 simp [rd_T26, List.getD_eq_getElem?_getD, h]
end Go.Proofs.Ytnafnieocpkkhaa.P

namespace Go.Proofs.Ytnafnieocpkkhaa.P
open Go.RowKit Go.Proofs.YtnafnieocpkkhaaW.PrintWords Go.Proofs.YtnafnieocpkkhaaW.PrintLast Go.Proofs.YtnafnieocpkkhaaW.PrintMore
attribute [local go_sem] max2_int min2_int max_two min_two max_three min_three max_four min_four
set_option linter.unusedVariables false
set_option linter.unusedSimpArgs false

/-- The first kid, from one on, in which an offset is: which one, the kid, the offset in it. -/
def tree_Find.scan (k : Nat) : List (S26) → Int → Nat → Option (Nat × S26 × Int)
 | [], _, _ => none
 | x :: r, off, i => (tree_width.f k x.f0 x.f1.f0 x.f1.f1 x.f2).bind fun w => if off < w then some (i, x, off) else tree_Find.scan k r (wrap64 (off - w)) (i + 1)
def tree_Find.go (k : Nat) : Nat → S26 → Int → List Int → Option (List Int)
 | 0, _, _, _ => none
 | m + 1, n, off, acc => if n.f0 = 1 then some acc else (tree_Find.scan k n.f2 off 0).bind fun x => if acc.length < 17592186044416 then tree_Find.go k m x.2.1 x.2.2 (acc ++ [(x.1 : Int)]) else none
def tree_Find.f (k : Nat) (a0_0 : Int) (a0_1 : Int) (a0_2 : ByteArray) (l0_3 : List (S26)) (a1 : Int) : Option (List Int × Int) :=
 (tree_IsFormed.f k a0_0 a0_1 a0_2 l0_3).bind fun b => if b = true then
  (tree_width.f k a0_0 a0_1 a0_2 l0_3).bind fun w => if a1 < 0 then some ([], 2) else if a1 > w then some ([], 2) else if w = 0 then some ([], 5) else (tree_Find.go k k ⟨a0_0, ⟨a0_1, a0_2⟩, l0_3⟩ (mn a1 (wrap64 (w - 1))) []).bind fun l => some (l, 0)
 else some ([], 4)
theorem tree_Find.infoInt : (Try.prog.info? 3).map (fun i => (i.zero, i.size, i.bytes)) = some (some (.int .i64 0), 1, 8) := by kernel_rfl
attribute [local go_sem] max2_int min2_int max_two min_two max_three min_three max_four min_four
set_option maxHeartbeats 8000000 in
set_option maxRecDepth 100000 in
theorem tree_Find.calls (k : Nat) (a0_0 : Int) (a0_1 : Int) (a0_2 : ByteArray) (A0_3 : Option Addr) (c0_3 : Nat) (l0_3 : List (S26)) (a1 : Int) (r1 : List Int) (r2 : Int) (w : World) (hr0_3 : Kd.C k26 w A0_3 l0_3.length l0_3) (hc0_3 : l0_3.length ≤ c0_3) (h : tree_Find.f k a0_0 a0_1 a0_2 l0_3 a1 = some (r1, r2)) :
  Calls Try.prog 16 #[.agg #[.int .i64 a0_0, .int .i64 a0_1, .string a0_2, .slice A0_3 l0_3.length c0_3], .int .i64 a1] w fun e w' => ∃ v0_ : Value, e = .returned (.tuple #[v0_, .int .i64 r2]) ∧ Kd.R (Kd.int .i64) 3 w' w.heap.size (fun _ => True) v0_ r1 ∧ Below w.heap.size w w' := by
 have hu := Try.underlying26; unfold tree_Find.f at h; obtain ⟨b, hb, h⟩ := Option.bind_eq_some_iff.mp h; have HB := Aside0.mk (below_alloc (Below.refl w.heap.size w) (.cells #[.int .i64 a0_0, .int .i64 a0_1, .string a0_2, .slice A0_3 l0_3.length c0_3] 26)); have HG := Aside0.mk (blk_new w (.cells #[.int .i64 a0_0, .int .i64 a0_1, .string a0_2, .slice A0_3 l0_3.length c0_3] 26)); have HF := Aside0.mk hb; have HR := Aside0.mk hr0_3; clear hb hr0_3
 cases b with
 | false =>
  rw [if_neg (by decide)] at h; simp only [Option.some.injEq, Prod.mk.injEq] at h; obtain ⟨rfl, rfl⟩ := h; go_enter Try.func16, Try.ntmps16; go_wp2
  go_step3
  go_wp2_with (go_at_call 30; refine (tree_IsFormed.calls k _ _ _ _ _ _ _ _ (Kd.C_below HR.out HB.out) hc0_3 HF.out).mono ?_; rintro e w1 ⟨rfl, hb⟩; have HB1 := Aside0.mk (token_good.step HB.out hb); clear hb)
  (try rw [Exit.noGoto_ret])
  go_ret2
  exact ⟨_, rfl, Kd.R_nil _ _ _ _ _, HB1.out⟩
 | true =>
  rw [if_pos rfl] at h; obtain ⟨wd, hw, h⟩ := Option.bind_eq_some_iff.mp h; have HW := Aside0.mk hw; clear hw; by_cases c1 : a1 < 0
  ·rw [if_pos c1] at h; simp only [Option.some.injEq, Prod.mk.injEq] at h; obtain ⟨rfl, rfl⟩ := h; have c1b : decide (a1 < 0) = true := decide_eq_true c1; clear c1; go_enter Try.func16, Try.ntmps16; go_wp2
   go_step3
   go_wp2_with (first | (go_at_call 30; refine (tree_IsFormed.calls k _ _ _ _ _ _ _ _ (Kd.C_below HR.out HB.out) hc0_3 HF.out).mono ?_; rintro e w1 ⟨rfl, hb⟩; have HB1 := Aside0.mk (token_good.step HB.out hb); have HG1 := Aside0.mk (blk_below HG.out hb); have z0 : w1.cell? ⟨w.heap.size, 0, none⟩ = some (.int .i64 a0_0) := Lib.cell_of_heap HG1.out 0; have z1 : w1.cell? ⟨w.heap.size, 1, none⟩ = some (.int .i64 a0_1) := Lib.cell_of_heap HG1.out 1; have z2 : w1.cell? ⟨w.heap.size, 2, none⟩ = some (.string a0_2) := Lib.cell_of_heap HG1.out 2; have z3 : w1.cell? ⟨w.heap.size, 3, none⟩ = some (.slice A0_3 l0_3.length c0_3) := Lib.cell_of_heap HG1.out 3; clear hb) | (go_at_call 55; refine (tree_width.calls k _ _ _ _ _ _ _ _ (Kd.C_below HR.out HB1.out) hc0_3 HW.out).mono ?_; rintro e w2 ⟨rfl, hb⟩; have HB2 := Aside0.mk (token_good.step HB1.out hb); have HG2 := Aside0.mk (blk_below HG1.out hb); clear hb))
   (try rw [Exit.noGoto_ret])
   go_ret2
   exact ⟨_, rfl, Kd.R_nil _ _ _ _ _, HB2.out⟩
  ·rw [if_neg c1] at h; have c1b : decide (a1 < 0) = false := decide_eq_false c1; by_cases c2 : a1 > wd
   ·rw [if_pos c2] at h; simp only [Option.some.injEq, Prod.mk.injEq] at h; obtain ⟨rfl, rfl⟩ := h; have c2b : decide (wd < a1) = true := decide_eq_true c2; clear c1 c2; go_enter Try.func16, Try.ntmps16; go_wp2
    go_step3
    go_wp2_with (first | (go_at_call 30; refine (tree_IsFormed.calls k _ _ _ _ _ _ _ _ (Kd.C_below HR.out HB.out) hc0_3 HF.out).mono ?_; rintro e w1 ⟨rfl, hb⟩; have HB1 := Aside0.mk (token_good.step HB.out hb); have HG1 := Aside0.mk (blk_below HG.out hb); have z0 : w1.cell? ⟨w.heap.size, 0, none⟩ = some (.int .i64 a0_0) := Lib.cell_of_heap HG1.out 0; have z1 : w1.cell? ⟨w.heap.size, 1, none⟩ = some (.int .i64 a0_1) := Lib.cell_of_heap HG1.out 1; have z2 : w1.cell? ⟨w.heap.size, 2, none⟩ = some (.string a0_2) := Lib.cell_of_heap HG1.out 2; have z3 : w1.cell? ⟨w.heap.size, 3, none⟩ = some (.slice A0_3 l0_3.length c0_3) := Lib.cell_of_heap HG1.out 3; clear hb) | (go_at_call 55; refine (tree_width.calls k _ _ _ _ _ _ _ _ (Kd.C_below HR.out HB1.out) hc0_3 HW.out).mono ?_; rintro e w2 ⟨rfl, hb⟩; have HB2 := Aside0.mk (token_good.step HB1.out hb); have HG2 := Aside0.mk (blk_below HG1.out hb); clear hb))
    (try rw [Exit.noGoto_ret])
    go_ret2
    exact ⟨_, rfl, Kd.R_nil _ _ _ _ _, HB2.out⟩
   ·rw [if_neg c2] at h; have c2b : decide (wd < a1) = false := decide_eq_false c2; by_cases c3 : wd = 0
    ·rw [if_pos c3] at h; simp only [Option.some.injEq, Prod.mk.injEq] at h; obtain ⟨rfl, rfl⟩ := h; have c3b : (wd == 0) = true := beq_iff_eq.mpr c3; clear c1 c2 c3; go_enter Try.func16, Try.ntmps16; go_wp2
     go_step3
     go_wp2_with (first | (go_at_call 30; refine (tree_IsFormed.calls k _ _ _ _ _ _ _ _ (Kd.C_below HR.out HB.out) hc0_3 HF.out).mono ?_; rintro e w1 ⟨rfl, hb⟩; have HB1 := Aside0.mk (token_good.step HB.out hb); have HG1 := Aside0.mk (blk_below HG.out hb); have z0 : w1.cell? ⟨w.heap.size, 0, none⟩ = some (.int .i64 a0_0) := Lib.cell_of_heap HG1.out 0; have z1 : w1.cell? ⟨w.heap.size, 1, none⟩ = some (.int .i64 a0_1) := Lib.cell_of_heap HG1.out 1; have z2 : w1.cell? ⟨w.heap.size, 2, none⟩ = some (.string a0_2) := Lib.cell_of_heap HG1.out 2; have z3 : w1.cell? ⟨w.heap.size, 3, none⟩ = some (.slice A0_3 l0_3.length c0_3) := Lib.cell_of_heap HG1.out 3; clear hb) | (go_at_call 55; refine (tree_width.calls k _ _ _ _ _ _ _ _ (Kd.C_below HR.out HB1.out) hc0_3 HW.out).mono ?_; rintro e w2 ⟨rfl, hb⟩; have HB2 := Aside0.mk (token_good.step HB1.out hb); have HG2 := Aside0.mk (blk_below HG1.out hb); clear hb))
     (try rw [Exit.noGoto_ret])
     go_ret2
     exact ⟨_, rfl, Kd.R_nil _ _ _ _ _, HB2.out⟩
    ·rw [if_neg c3] at h; have c3b : (wd == 0) = false := beq_eq_false_iff_ne.mpr c3; obtain ⟨l, hl, h⟩ := Option.bind_eq_some_iff.mp h; simp only [Option.some.injEq, Prod.mk.injEq] at h; obtain ⟨rfl, rfl⟩ := h
     obtain ⟨o1, ho1⟩ : ∃ o1 : Int, mn a1 (wrap64 (wd - 1)) = o1 := ⟨_, rfl⟩
     rw [ho1] at hl
     have ho2 : (if wrap64 (wd - 1) < a1 then wrap64 (wd - 1) else a1) = o1 := (by rw [← ho1]; unfold mn; rfl)
     have HL := Aside0.mk hl; clear c1 c2 c3 hl ho1; go_enter Try.func16, Try.ntmps16; go_wp2
     go_step3
     go_wp2_with (first | (go_at_call 30; refine (tree_IsFormed.calls k _ _ _ _ _ _ _ _ (Kd.C_below HR.out HB.out) hc0_3 HF.out).mono ?_; rintro e w1 ⟨rfl, hb⟩; have HB1 := Aside0.mk (token_good.step HB.out hb); have HG1 := Aside0.mk (blk_below HG.out hb); have z0 : w1.cell? ⟨w.heap.size, 0, none⟩ = some (.int .i64 a0_0) := Lib.cell_of_heap HG1.out 0; have z1 : w1.cell? ⟨w.heap.size, 1, none⟩ = some (.int .i64 a0_1) := Lib.cell_of_heap HG1.out 1; have z2 : w1.cell? ⟨w.heap.size, 2, none⟩ = some (.string a0_2) := Lib.cell_of_heap HG1.out 2; have z3 : w1.cell? ⟨w.heap.size, 3, none⟩ = some (.slice A0_3 l0_3.length c0_3) := Lib.cell_of_heap HG1.out 3; clear hb) | (go_at_call 55; refine (tree_width.calls k _ _ _ _ _ _ _ _ (Kd.C_below HR.out HB1.out) hc0_3 HW.out).mono ?_; rintro e w2 ⟨rfl, hb⟩; have HB2 := Aside0.mk (token_good.step HB1.out hb); have HG2 := Aside0.mk (blk_below HG1.out hb); clear hb))
     go_step3
     go_wp2
     go_loopg [1, 7] k (fun kq v1 v7 w' => ∃ (n : S26) (A : Option Addr) (cc : Nat) (off : Int) (acc : List Int), v1 = .int .i64 off ∧ Aside0 (tree_Find.go k kq n off acc = some l) ∧ Aside0 (Kd.C k26 w A n.f2.length n.f2 ∧ n.f2.length ≤ cc) ∧ Aside0 (w'.heap[w.heap.size]? = some (.cells #[.int .i64 n.f0, .int .i64 n.f1.f0, .string n.f1.f1, .slice A n.f2.length cc] 26 (0, 0))) ∧ Aside0 (Kd.R (Kd.int .i64) 3 w' w.heap.size (fun _ => True) v7 acc) ∧ Aside0 (Below w.heap.size w w'))
     case atStart => exact ⟨⟨a0_0, ⟨a0_1, a0_2⟩, l0_3⟩, A0_3, c0_3, o1, [], (by first | rfl | rw [ho2]), HL, ⟨HR.out, hc0_3⟩, HG2, ⟨Kd.R_nil _ _ _ _ _⟩, HB2⟩
     case round =>
      clear HL HG HG1 HG2 HB HB1 HB2 HF HW z0 z1 z2 z3 ho2 c1b c2b c3b; obtain ⟨n, A, cc, off, acc, rfl, HA, HC, HG, HO, HB⟩ := hrel
      cases gk with
      | zero => exact absurd HA.out (by simp [tree_Find.go])
      | succ kq =>
      have H := HA.out; rw [tree_Find.go] at H; clear HA; have z0 : wr.cell? ⟨w.heap.size, 0, none⟩ = some (.int .i64 n.f0) := Lib.cell_of_heap HG.out 0; have z3 : wr.cell? ⟨w.heap.size, 3, none⟩ = some (.slice A n.f2.length cc) := Lib.cell_of_heap HG.out 3; have hmax : n.f2.length ≤ 9223372036854775807 := HC.out.1.2.1; by_cases c4 : n.f0 = 1
      ·rw [if_pos c4] at H; injection H with H; subst H; have c4b : (n.f0 != 1) = false := bne_eq_false_iff_eq.mpr c4; clear c4; go_wp2
       (try rw [Exit.noGoto_ret])
       go_ret2
       exact ⟨_, rfl, HO.out, HB.out⟩
      ·rw [if_neg c4] at H; have c4b : (n.f0 != 1) = true := bne_iff_ne.mpr c4; clear c4; obtain ⟨⟨j, x, o2⟩, hs, Hn⟩ := Option.bind_eq_some_iff.mp H; clear H; obtain ⟨hlen, Hn⟩ := Ut.ite_some Hn; have HS := Aside0.mk hs; have HN := Aside0.mk Hn; clear hs Hn; go_wp2
       go_loopg [1, 7, 35] n.f2.length (fun kq2 v1 v7 v35 w' => ∃ (i : Nat) (o : Int), v1 = .int .i64 o ∧ v35 = .int .i64 (i : Int) ∧ Aside0 (i + kq2 = n.f2.length) ∧ Aside0 (tree_Find.scan k (n.f2.drop i) o i = some (j, x, o2)) ∧ Aside0 (w'.heap[w.heap.size]? = some (.cells #[.int .i64 n.f0, .int .i64 n.f1.f0, .string n.f1.f1, .slice A n.f2.length cc] 26 (0, 0))) ∧ Aside0 (Kd.R (Kd.int .i64) 3 w' w.heap.size (fun _ => True) v7 acc) ∧ Aside0 (Below w.heap.size w w'))
       case atStart => exact ⟨0, off, rfl, rfl, ⟨by omega⟩, HS, HG, HO, HB⟩
       case round =>
        clear HS HG HO HB z0 z3; obtain ⟨i, o, rfl, rfl, HK, HS, HG, HO, HB⟩ := hrel; by_cases hlt : i < n.f2.length
        ·have hd1 : decide ((i : Int) < (n.f2.length : Int)) = true := decide_eq_true (by omega); have S := HS.out; rw [List.drop_eq_getElem_cons hlt] at S; simp only [tree_Find.scan] at S; obtain ⟨wy, hwy, Sn⟩ := Option.bind_eq_some_iff.mp S; clear S HS
         have hrd : rd_T26 n.f2 (i : Int) = n.f2[i] := (by simp [rd_T26, hlt])
         obtain ⟨ad, A3, c3, e, hx0, hx1, hx2, hx3, hl3, hC3⟩ := at_T26 HC.out.1 (i : Int) (by omega) (by omega); rw [hrd] at hx0 hx1 hx2 hx3 hl3 hC3; rw [Int.toNat_natCast] at hx0 hx1 hx2 hx3; subst e; replace hx0 := zh HB hx0; replace hx1 := zh HB hx1; replace hx2 := zh HB hx2; replace hx3 := zh HB hx3; clear hrd; generalize n.f2[i] = y at *; have HW := Aside0.mk hwy; have HC3 := Aside0.mk (And.intro hC3 hl3); have HB1 := Aside0.mk (below_alloc HB.out (.cells #[.int .i64 y.f0, .int .i64 y.f1.f0, .string y.f1.f1, .slice A3 y.f2.length c3] 26)); have HG1 := Aside0.mk (blk_alloc HG.out (.cells #[.int .i64 y.f0, .int .i64 y.f1.f0, .string y.f1.f1, .slice A3 y.f2.length c3] 26)); have HY1 := Aside0.mk (blk_new wr (.cells #[.int .i64 y.f0, .int .i64 y.f1.f0, .string y.f1.f1, .slice A3 y.f2.length c3] 26)); have HO1 := Aside0.mk (Kd.R_alloc HO.out (.cells #[.int .i64 y.f0, .int .i64 y.f1.f0, .string y.f1.f1, .slice A3 y.f2.length c3] 26)); clear hwy hC3 hl3; by_cases c5 : o < wy
         ·rw [if_pos c5] at Sn; simp only [Option.some.injEq, Prod.mk.injEq] at Sn; obtain ⟨rfl, rfl, rfl⟩ := Sn; have c5b : decide (o < wy) = true := decide_eq_true c5; clear c5
          go_wp2_with (first | (go_at_call 55; refine (tree_width.calls k _ _ _ _ _ _ _ _ (Kd.C_below HC3.out.1 HB1.out) HC3.out.2 HW.out).mono ?_; rintro e w3 ⟨rfl, hb⟩; have HB3 := Aside0.mk (token_good.step HB1.out hb); have HG3 := Aside0.mk (blk_below HG1.out hb); have HY3 := Aside0.mk (blk_below HY1.out hb); have HO3 := Aside0.mk (Kd.R_below HO1.out hb); clear hb) | (at_builtin; refine Kd.R_append (Kd.int .i64) (w0 := w) w.heap.size rfl (.tmp 45) (.tmp 47) 30 3 (.int .i64 0) 8 rfl Try.underlying30 tree_Find.infoInt rfl (by decide) (by omega) u7 acc (i : Int) [.int .i64 (i : Int)] (fun _ => True) (fun _ => False) rfl rfl rfl (fun _ hk => hk.elim) (fun _ _ => trivial) HO3.out HB3.out (below_size HB3.out) (by omega) ?_; intro v8 w4 ho hb hg hat; have HB4 := Aside0.mk hb; have HO4 := Aside0.mk ho; have HG4 := Aside0.mk (blk_grown HG3.out hg (Kd.R_ne HO3.out HG3.out (by decide))); have HY4 := Aside0.mk (blk_grown HY3.out hg (Kd.R_ne HO3.out HY3.out (by decide))); clear ho hb hg hat; have y0 : w4.cell? ⟨wr.heap.size, 0, none⟩ = some (.int .i64 y.f0) := Lib.cell_of_heap HY4.out 0; have y1 : w4.cell? ⟨wr.heap.size, 1, none⟩ = some (.int .i64 y.f1.f0) := Lib.cell_of_heap HY4.out 1; have y2 : w4.cell? ⟨wr.heap.size, 2, none⟩ = some (.string y.f1.f1) := Lib.cell_of_heap HY4.out 2; have y3 : w4.cell? ⟨wr.heap.size, 3, none⟩ = some (.slice A3 y.f2.length c3) := Lib.cell_of_heap HY4.out 3; have z0 : w4.cell? ⟨w.heap.size, 0, none⟩ = some (.int .i64 n.f0) := Lib.cell_of_heap HG4.out 0; have z1 : w4.cell? ⟨w.heap.size, 1, none⟩ = some (.int .i64 n.f1.f0) := Lib.cell_of_heap HG4.out 1; have z2 : w4.cell? ⟨w.heap.size, 2, none⟩ = some (.string n.f1.f1) := Lib.cell_of_heap HG4.out 2; have z3 : w4.cell? ⟨w.heap.size, 3, none⟩ = some (.slice (some ad) n.f2.length cc) := Lib.cell_of_heap HG4.out 3; have d0 := Lib.frozen_of_heap HG4.out 0; have d1 := Lib.frozen_of_heap HG4.out 1; have d2 := Lib.frozen_of_heap HG4.out 2; have d3 := Lib.frozen_of_heap HG4.out 3))
          go_roundg kq
          case measure => omega
          case rel => exact ⟨y, A3, c3, o, acc ++ [(i : Int)], rfl, HN, HC3, ⟨by refine blk_put (cs := #[.int .i64 y.f0, .int .i64 y.f1.f0, .string y.f1.f1, .slice (some ad) n.f2.length cc]) ?_ 3 _ rfl; refine blk_put (cs := #[.int .i64 y.f0, .int .i64 y.f1.f0, .string n.f1.f1, .slice (some ad) n.f2.length cc]) ?_ 2 _ rfl; refine blk_put (cs := #[.int .i64 y.f0, .int .i64 n.f1.f0, .string n.f1.f1, .slice (some ad) n.f2.length cc]) ?_ 1 _ rfl; refine blk_put (cs := #[.int .i64 n.f0, .int .i64 n.f1.f0, .string n.f1.f1, .slice (some ad) n.f2.length cc]) ?_ 0 _ rfl; exact HG4.out⟩, ⟨by refine Kd.R_set (Kd.R_set (Kd.R_set (Kd.R_set HO4.out HG4.out ?ht 0 _) (blk_put HG4.out 0 _ rfl) ?ht 1 _) (blk_put (blk_put HG4.out 0 _ rfl) 1 _ rfl) ?ht 2 _) (blk_put (blk_put (blk_put HG4.out 0 _ rfl) 1 _ rfl) 2 _ rfl) ?ht 3 _; intro q hq e; subst e; revert hq; decide⟩, ⟨by repeat (first | exact HB4.out | refine below_set ?_ (Nat.le_refl _))⟩⟩
         ·rw [if_neg c5] at Sn; have HS2 := Aside0.mk Sn; have c5b : decide (o < wy) = false := decide_eq_false c5; clear c5 Sn
          cases gk with
          | zero => exact absurd hlt (by have := HK.out; omega)
          | succ kq2 =>
          go_wp2_with (go_at_call 55; refine (tree_width.calls k _ _ _ _ _ _ _ _ (Kd.C_below HC3.out.1 HB1.out) HC3.out.2 HW.out).mono ?_; rintro e w3 ⟨rfl, hb⟩; have HB3 := Aside0.mk (token_good.step HB1.out hb); have HG3 := Aside0.mk (blk_below HG1.out hb); have HO3 := Aside0.mk (Kd.R_below HO1.out hb); clear hb)
          go_roundg kq2
          case measure => omega
          case rel => exact ⟨i + 1, _, rfl, by go_num, ⟨by have := HK.out; omega⟩, HS2, HG3, HO3, HB3⟩
        ·have S := HS.out; rw [List.drop_of_length_le (by have := HK.out; omega)] at S
         simp [tree_Find.scan] at S

end Go.Proofs.Ytnafnieocpkkhaa.P

namespace Go.Proofs.Ytnafnieocpkkhaa.P
open Go.RowKit Go.Proofs.YtnafnieocpkkhaaW.PrintWords Go.Proofs.YtnafnieocpkkhaaW.PrintLast Go.Proofs.YtnafnieocpkkhaaW.PrintMore
attribute [local go_sem] max2_int min2_int max_two min_two max_three min_three max_four min_four
set_option linter.unusedVariables false
set_option linter.unusedSimpArgs false

mutual
def tree_Cover.l0 : Nat → List Int → Int → Int → Int → ByteArray → List (S26) → Int → Int → Option (List Int × Int)
 | 0, _, _, _, _, _, _, _, _ => none
 | k + 1, x6, x7, x180000, x180001, x180002, x180003, x181000, x181001 => tree_Cover.l1 k x6 (-1) 0 x7 x180003 (x180003.length : Int) 0 x180000 x180001 x180002 x180003 x181000 x181001
def tree_Cover.l1 : Nat → List Int → Int → Int → Int → List (S26) → Int → Int → Int → Int → ByteArray → List (S26) → Int → Int → Option (List Int × Int)
 | 0, _, _, _, _, _, _, _, _, _, _, _, _, _ => none
 | k + 1, x6, x8, x9, x10, x36, x37, x38, x180000, x180001, x180002, x180003, x181000, x181001 => if x38 < x37 then (if 0 ≤ x38 then (if x38 < (x36.length : Int) then ((tree_width.f k ((rd_T26 x36 x38).f0) ((rd_T26 x36 x38).f1.f0) ((rd_T26 x36 x38).f1.f1) ((rd_T26 x36 x38).f2)).bind fun t185 => (if x10 ≤ x181000 then (if x181001 ≤ (wrap64 (x10 + t185)) then (tree_Cover.l1 k x6 x38 x10 (wrap64 (x10 + t185)) x36 x37 (wrap64 (x38 + 1)) x180000 x180001 x180002 x180003 x181000 x181001) else (tree_Cover.l1 k x6 x8 x9 (wrap64 (x10 + t185)) x36 x37 (wrap64 (x38 + 1)) x180000 x180001 x180002 x180003 x181000 x181001)) else (tree_Cover.l1 k x6 x8 x9 (wrap64 (x10 + t185)) x36 x37 (wrap64 (x38 + 1)) x180000 x180001 x180002 x180003 x181000 x181001))) else (none)) else (none)) else (if x8 < 0 then (some (x6, 0)) else (if x6.length < 17592186044416 then (if 0 ≤ x8 then (if x8 < (x180003.length : Int) then (tree_Cover.l0 k (x6 ++ [x8]) x9 ((rd_T26 x180003 x8).f0) ((rd_T26 x180003 x8).f1.f0) ((rd_T26 x180003 x8).f1.f1) ((rd_T26 x180003 x8).f2) x181000 x181001) else (none)) else (none)) else (none)))
end
def tree_Cover.f (k : Nat) (a0_0 : Int) (a0_1 : Int) (a0_2 : ByteArray) (l0_3 : List (S26)) (a1_0 : Int) (a1_1 : Int) : Option (List Int × Int) := (tree_IsFormed.f k a0_0 a0_1 a0_2 l0_3).bind fun t181 => (if t181 = true then (if a1_0 < 0 then (none) else (if a1_0 > a1_1 then (none) else ((tree_width.f k a0_0 a0_1 a0_2 l0_3).bind fun t182 => (if a1_1 > t182 then (none) else (tree_Cover.l0 k ([] : List Int) 0 a0_0 a0_1 a0_2 l0_3 a1_0 a1_1))))) else (none))
theorem tree_Cover.info : (Try.prog.info? 3).map (fun i => (i.zero, i.size, i.bytes)) = some (some (.int .i64 0), 1, 8) := by kernel_rfl
set_option maxHeartbeats 8000000 in
set_option maxRecDepth 100000 in
theorem tree_Cover.calls (k : Nat) (a0_0 : Int) (a0_1 : Int) (a0_2 : ByteArray) (A0_3 : Option Addr) (c0_3 : Nat) (l0_3 : List (S26)) (a1_0 : Int) (a1_1 : Int) (r1 : List Int) (r2 : Int) (w : World) (hr0_3 : Kd.C k26 w A0_3 l0_3.length l0_3) (hc0_3 : l0_3.length ≤ c0_3) (h : tree_Cover.f k a0_0 a0_1 a0_2 l0_3 a1_0 a1_1 = some (r1, r2)) :
  Calls Try.prog 17 #[.agg #[.int .i64 a0_0, .int .i64 a0_1, .string a0_2, .slice A0_3 l0_3.length c0_3], .agg #[.int .i64 a1_0, .int .i64 a1_1]] w fun e w' => ∃ v0_ : Value, e = .returned (.tuple #[v0_, .int .i64 r2]) ∧ Kd.R (Kd.int .i64) 3 w' w.heap.size (fun _ => True) v0_ r1 ∧ Below w.heap.size w w' := by
 have hu := Try.underlying26; have hu2 := Try.underlying28; unfold tree_Cover.f at h; obtain ⟨b, hb, h⟩ := Option.bind_eq_some_iff.mp h
 cases b with
 | false => exact absurd h (by simp)
 | true =>
 rw [if_pos rfl] at h; by_cases c1 : a1_0 < 0
 ·rw [if_pos c1] at h; cases h
 rw [if_neg c1] at h; by_cases c2 : a1_0 > a1_1
 ·rw [if_pos c2] at h; cases h
 rw [if_neg c2] at h; obtain ⟨wd, hwd, h⟩ := Option.bind_eq_some_iff.mp h; by_cases c3 : a1_1 > wd
 ·rw [if_pos c3] at h; cases h
 rw [if_neg c3] at h; have d1 : decide (a1_0 < 0) = false := decide_eq_false c1; have d2 : decide (a1_1 < a1_0) = false := decide_eq_false c2; have d3 : decide (wd < a1_1) = false := decide_eq_false c3; have hw2 : Below w.heap.size w ((w.alloc (.cells #[.int .i64 a0_0, .int .i64 a0_1, .string a0_2, .slice A0_3 l0_3.length c0_3] 26)).alloc (.cells #[.int .i64 a1_0, .int .i64 a1_1] 28)) := below_alloc (below_alloc (Below.refl _ _) _) _; have Cn := Aside0.mk (Kd.C_below hr0_3 hw2); have C0 := Aside0.mk hr0_3; have HB := Aside0.mk hw2; have H2 := Aside0.mk (show ((w.alloc (.cells #[.int .i64 a0_0, .int .i64 a0_1, .string a0_2, .slice A0_3 l0_3.length c0_3] 26)).alloc (.cells #[.int .i64 a1_0, .int .i64 a1_1] 28)).heap[w.heap.size]? = some (.cells #[.int .i64 a0_0, .int .i64 a0_1, .string a0_2, .slice A0_3 l0_3.length c0_3] 26 (0, 0)) from blk_alloc (blk_new w _) _); have H3 := Aside0.mk (show ((w.alloc (.cells #[.int .i64 a0_0, .int .i64 a0_1, .string a0_2, .slice A0_3 l0_3.length c0_3] 26)).alloc (.cells #[.int .i64 a1_0, .int .i64 a1_1] 28)).heap[w.heap.size + 1]? = some (.cells #[.int .i64 a1_0, .int .i64 a1_1] 28 (0, 0)) by simpa using blk_new (w.alloc (.cells #[.int .i64 a0_0, .int .i64 a0_1, .string a0_2, .slice A0_3 l0_3.length c0_3] 26)) (.cells #[.int .i64 a1_0, .int .i64 a1_1] 28)); have E1 := Aside0.mk hb; have E2 := Aside0.mk hwd; have HH := Aside0.mk h; clear hr0_3 hw2 h hb hwd c1 c2 c3; go_enter Try.func17, Try.ntmps17; go_wp2_with fail; refine (tree_IsFormed.calls k a0_0 a0_1 a0_2 A0_3 c0_3 l0_3 true _ Cn.out hc0_3 E1.out).mono ?_; rintro e w3 ⟨rfl, hb⟩; replace Cn := Aside0.mk (Kd.C_below Cn.out hb); replace H2 := Aside0.mk (blk_below H2.out hb); replace H3 := Aside0.mk (blk_below H3.out hb); replace HB := Aside0.mk (Cl.bstep HB.out hb); clear hb; obtain ⟨yH2_0, yH2_1, yH2_2, yH2_3⟩ := Cl.four H2.out; obtain ⟨yH3_0, yH3_1⟩ := Cl.two H3.out; go_wp2_with fail
 have hS : (fun w' : World => w'.cell? ⟨w.heap.size, 0, none⟩ = some (.int .i64 a0_0) ∧ w'.cell? ⟨w.heap.size, 1, none⟩ = some (.int .i64 a0_1) ∧ w'.cell? ⟨w.heap.size, 2, none⟩ = some (.string a0_2) ∧ w'.cell? ⟨w.heap.size, 3, none⟩ = some (.slice A0_3 l0_3.length c0_3) ∧ w'.cell? ⟨w.heap.size + 1, 0, none⟩ = some (.int .i64 a1_0) ∧ w'.cell? ⟨w.heap.size + 1, 1, none⟩ = some (.int .i64 a1_1)) w3.drew := ⟨yH2_0, yH2_1, yH2_2, yH2_3, yH3_0, yH3_1⟩
 have hd := below_drew1 (Below.refl w3.heap.size w3); replace Cn := Aside0.mk (Kd.C_below Cn.out hd); replace H2 := Aside0.mk (blk_below H2.out hd); replace H3 := Aside0.mk (blk_below H3.out hd); replace HB := Aside0.mk (Cl.bstep HB.out hd); clear hd; refine start_ (n := 17) (S := fun w' => w'.cell? ⟨w.heap.size, 0, none⟩ = some (.int .i64 a0_0) ∧ w'.cell? ⟨w.heap.size, 1, none⟩ = some (.int .i64 a0_1) ∧ w'.cell? ⟨w.heap.size, 2, none⟩ = some (.string a0_2) ∧ w'.cell? ⟨w.heap.size, 3, none⟩ = some (.slice A0_3 l0_3.length c0_3) ∧ w'.cell? ⟨w.heap.size + 1, 0, none⟩ = some (.int .i64 a1_0) ∧ w'.cell? ⟨w.heap.size + 1, 1, none⟩ = some (.int .i64 a1_1)) (ds := []) #[false, false, false, false, false, false, false, false, false, false, false, false, false, false, false, false, false] (by kernel_rfl) rfl rfl hS (fun hHeld => ?_); refine take_ (i := 0) (N := some 17) (v := ?_) (a' := ?_) #[true, false, false, false, false, false, false, false, false, false, false, false, false, false, false, false, false] rfl rfl (by kernel_rfl) (fun _ _ _ h => h) (Or.inl ⟨by rfl, ?_⟩) hHeld ?_ ?_; rotate_left
 ·rintro w' ⟨s0, s1, s2, s3, s4, s5⟩; go_simp; with_reducible rfl
 rotate_left
 ·simp only [Act.put, List.setIfInBounds_toArray, List.set_cons_zero, List.set_cons_succ, i64_w, i32_w]; rfl
 refine take_ (i := 1) (N := some 18) (v := ?_) (a' := ?_) #[true, true, false, false, false, false, false, false, false, false, false, false, false, false, false, false, false] rfl rfl (by kernel_rfl) (fun _ _ _ h => h) (Or.inl ⟨by rfl, ?_⟩) hHeld ?_ ?_; rotate_left
 ·rintro w' ⟨s0, s1, s2, s3, s4, s5⟩; go_simp; with_reducible rfl
 rotate_left
 ·simp only [Act.put, List.setIfInBounds_toArray, List.set_cons_zero, List.set_cons_succ, i64_w, i32_w]; rfl
 refine take_ (i := 2) (N := some 19) (v := ?_) (a' := ?_) #[true, true, true, false, false, false, false, false, false, false, false, false, false, false, false, false, false] rfl rfl (by kernel_rfl) (fun _ _ _ h => h) (Or.inl ⟨by rfl, ?_⟩) hHeld ?_ ?_; rotate_left
 ·rintro w' ⟨s0, s1, s2, s3, s4, s5⟩; go_simp; with_reducible rfl
 rotate_left
 ·simp only [Act.put, List.setIfInBounds_toArray, List.set_cons_zero, List.set_cons_succ, i64_w, i32_w]; rfl
 refine take_ (i := 3) (N := some 20) (v := ?_) (a' := ?_) #[true, true, true, true, false, false, false, false, false, false, false, false, false, false, false, false, false] rfl rfl (by kernel_rfl) (fun _ _ _ h => h) (Or.inl ⟨by rfl, ?_⟩) hHeld ?_ ?_; rotate_left
 ·rintro w' ⟨s0, s1, s2, s3, s4, s5⟩; go_simp; with_reducible rfl
 rotate_left
 ·simp only [Act.put, List.setIfInBounds_toArray, List.set_cons_zero, List.set_cons_succ, i64_w, i32_w]; rfl
 refine take_ (i := 4) (N := some 21) (v := ?_) (a' := ?_) #[true, true, true, true, true, false, false, false, false, false, false, false, false, false, false, false, false] rfl rfl (by kernel_rfl) (fun _ _ _ h => h) (Or.inl ⟨by rfl, ?_⟩) hHeld ?_ ?_; rotate_left
 ·rintro w' ⟨s0, s1, s2, s3, s4, s5⟩; go_simp; with_reducible rfl
 rotate_left
 ·simp only [Act.put, List.setIfInBounds_toArray, List.set_cons_zero, List.set_cons_succ, i64_w, i32_w]; rfl
 refine take_ (i := 5) (N := some 22) (v := ?_) (a' := ?_) #[true, true, true, true, true, true, false, false, false, false, false, false, false, false, false, false, false] rfl rfl (by kernel_rfl) (fun _ _ _ h => h) (Or.inl ⟨by rfl, ?_⟩) hHeld ?_ ?_; rotate_left
 ·rintro w' ⟨s0, s1, s2, s3, s4, s5⟩; go_simp; with_reducible rfl
 rotate_left
 ·simp only [Act.put, List.setIfInBounds_toArray, List.set_cons_zero, List.set_cons_succ, i64_w, i32_w]; rfl
 refine take_ (i := 6) (N := some 23) (v := ?_) (a' := ?_) #[true, true, true, true, true, true, true, false, false, false, false, false, false, false, false, false, false] rfl rfl (by kernel_rfl) (fun _ _ _ h => h) (Or.inl ⟨by rfl, ?_⟩) hHeld ?_ ?_; rotate_left
 ·rintro w' ⟨s0, s1, s2, s3, s4, s5⟩; go_simp; with_reducible rfl
 rotate_left
 ·simp only [Act.put, List.setIfInBounds_toArray, List.set_cons_zero, List.set_cons_succ, i64_w, i32_w]; rfl
 refine take_ (i := 7) (N := some 24) (v := ?_) (a' := ?_) #[true, true, true, true, true, true, true, true, false, false, false, false, false, false, false, false, false] rfl rfl (by kernel_rfl) (fun _ _ _ h => h) (Or.inl ⟨by rfl, ?_⟩) hHeld ?_ ?_; rotate_left
 ·rintro w' ⟨s0, s1, s2, s3, s4, s5⟩; go_simp; with_reducible rfl
 rotate_left
 ·simp only [Act.put, List.setIfInBounds_toArray, List.set_cons_zero, List.set_cons_succ, i64_w, i32_w]; rfl
 refine take_ (i := 8) (N := some 25) (v := ?_) (a' := ?_) #[true, true, true, true, true, true, true, true, true, false, false, false, false, false, false, false, false] rfl rfl (by kernel_rfl) (fun _ _ _ h => h) (Or.inl ⟨by rfl, ?_⟩) hHeld ?_ ?_; rotate_left
 ·rintro w' ⟨s0, s1, s2, s3, s4, s5⟩; go_simp; with_reducible rfl
 rotate_left
 ·simp only [Act.put, List.setIfInBounds_toArray, List.set_cons_zero, List.set_cons_succ, i64_w, i32_w]; rfl
 refine take_ (i := 9) (N := some 26) (v := ?_) (a' := ?_) #[true, true, true, true, true, true, true, true, true, true, false, false, false, false, false, false, false] rfl rfl (by kernel_rfl) (fun _ _ _ h => h) (Or.inl ⟨by rfl, ?_⟩) hHeld ?_ ?_; rotate_left
 ·rintro w' ⟨s0, s1, s2, s3, s4, s5⟩; go_simp; with_reducible rfl
 rotate_left
 ·simp only [Act.put, List.setIfInBounds_toArray, List.set_cons_zero, List.set_cons_succ, i64_w, i32_w]; rfl
 refine take_ (i := 10) (N := some 27) (v := ?_) (a' := ?_) #[true, true, true, true, true, true, true, true, true, true, true, false, false, false, false, false, false] rfl rfl (by kernel_rfl) (fun _ _ _ h => h) (Or.inl ⟨by rfl, ?_⟩) hHeld ?_ ?_; rotate_left
 ·rintro w' ⟨s0, s1, s2, s3, s4, s5⟩; go_simp; with_reducible rfl
 rotate_left
 ·simp only [Act.put, List.setIfInBounds_toArray, List.set_cons_zero, List.set_cons_succ, i64_w, i32_w]; rfl
 refine take_ (i := 11) (N := some 28) (v := ?_) (a' := ?_) #[true, true, true, true, true, true, true, true, true, true, true, true, false, false, false, false, false] rfl rfl (by kernel_rfl) (fun _ _ _ h => h) (Or.inl ⟨by rfl, ?_⟩) hHeld ?_ ?_; rotate_left
 ·rintro w' ⟨s0, s1, s2, s3, s4, s5⟩; go_simp; with_reducible rfl
 rotate_left
 ·simp only [Act.put, List.setIfInBounds_toArray, List.set_cons_zero, List.set_cons_succ, i64_w, i32_w]; rfl
 refine take_ (i := 12) (N := some 29) (v := ?_) (a' := ?_) #[true, true, true, true, true, true, true, true, true, true, true, true, true, false, false, false, false] rfl rfl (by kernel_rfl) (fun _ _ _ h => h) (Or.inl ⟨by rfl, ?_⟩) hHeld ?_ ?_; rotate_left
 ·rintro w' ⟨s0, s1, s2, s3, s4, s5⟩; go_simp; with_reducible rfl
 rotate_left
 ·simp only [Act.put, List.setIfInBounds_toArray, List.set_cons_zero, List.set_cons_succ, i64_w, i32_w]; rfl
 refine take_ (i := 13) (N := some 30) (v := ?_) (a' := ?_) #[true, true, true, true, true, true, true, true, true, true, true, true, true, true, false, false, false] rfl rfl (by kernel_rfl) (fun _ _ _ h => h) (Or.inl ⟨by rfl, ?_⟩) hHeld ?_ ?_; rotate_left
 ·rintro w' ⟨s0, s1, s2, s3, s4, s5⟩; go_simp; with_reducible rfl
 rotate_left
 ·simp only [Act.put, List.setIfInBounds_toArray, List.set_cons_zero, List.set_cons_succ, i64_w, i32_w]; rfl
 refine one_ (i := 14) (N := some 31) #[true, true, true, true, true, true, true, true, true, true, true, true, true, true, true, false, false] rfl rfl (by kernel_rfl) (by decide) (fun K hK => ?_); go_simp; go_at_call 55; refine (tree_width.calls k a0_0 a0_1 a0_2 A0_3 c0_3 l0_3 wd _ Cn.out hc0_3 E2.out).mono ?_; rintro e w4 ⟨rfl, hb⟩
 have hk4 : (fun w' : World => w'.cell? ⟨w.heap.size, 0, none⟩ = some (.int .i64 a0_0) ∧ w'.cell? ⟨w.heap.size, 1, none⟩ = some (.int .i64 a0_1) ∧ w'.cell? ⟨w.heap.size, 2, none⟩ = some (.string a0_2) ∧ w'.cell? ⟨w.heap.size, 3, none⟩ = some (.slice A0_3 l0_3.length c0_3) ∧ w'.cell? ⟨w.heap.size + 1, 0, none⟩ = some (.int .i64 a1_0) ∧ w'.cell? ⟨w.heap.size + 1, 1, none⟩ = some (.int .i64 a1_1)) w4 := ⟨pw_cell_below hb hHeld.1, pw_cell_below hb hHeld.2.1, pw_cell_below hb hHeld.2.2.1, pw_cell_below hb hHeld.2.2.2.1, pw_cell_below hb hHeld.2.2.2.2.1, pw_cell_below hb hHeld.2.2.2.2.2⟩
 replace Cn := Aside0.mk (Kd.C_below Cn.out hb); replace H2 := Aside0.mk (blk_below H2.out hb); replace H3 := Aside0.mk (blk_below H3.out hb); replace HB := Aside0.mk (Cl.bstep HB.out hb); clear hb; refine hK.out _ _ hk4 (fun hHeld => ?_); clear hK K; refine take_ (i := 15) (N := some 32) (v := ?_) (a' := ?_) #[true, true, true, true, true, true, true, true, true, true, true, true, true, true, true, true, false] rfl rfl (by kernel_rfl) (fun _ _ _ h => h) (Or.inl ⟨by rfl, ?_⟩) hHeld ?_ ?_; rotate_left
 ·rintro w' ⟨s0, s1, s2, s3, s4, s5⟩; go_simp; with_reducible rfl
 rotate_left
 ·simp only [Act.put, List.setIfInBounds_toArray, List.set_cons_zero, List.set_cons_succ, i64_w, i32_w]; rfl
 refine take_ (i := 16) (N := some 33) (v := ?_) (a' := ?_) #[true, true, true, true, true, true, true, true, true, true, true, true, true, true, true, true, true] rfl rfl (by kernel_rfl) (fun _ _ _ h => h) (Or.inl ⟨by rfl, ?_⟩) hHeld ?_ ?_; rotate_left
 ·rintro w' ⟨s0, s1, s2, s3, s4, s5⟩; go_simp; with_reducible rfl
 rotate_left
 ·simp only [Act.put, List.setIfInBounds_toArray, List.set_cons_zero, List.set_cons_succ, i64_w, i32_w]; rfl
 refine done_ (by kernel_rfl) ?_; clear yH2_0 yH2_1 yH2_2 yH2_3 yH3_0 yH3_1 hS hHeld hk4 E1 E2 d1 d2 d3; go_wp2_with fail
 go_loopg [6, 7] k (fun kq v6 v7 w' => ∃ (n : S26) (A : Option Addr) (cc : Nat) (acc : List Int) (fr : Int), v7 = .int .i64 fr ∧ Aside0 (tree_Cover.l0 kq acc fr n.f0 n.f1.f0 n.f1.f1 n.f2 a1_0 a1_1 = some (r1, r2)) ∧ Aside0 (Kd.C k26 w A n.f2.length n.f2 ∧ n.f2.length ≤ cc) ∧ Aside0 (w'.heap[w.heap.size]? = some (.cells #[.int .i64 n.f0, .int .i64 n.f1.f0, .string n.f1.f1, .slice A n.f2.length cc] 26 (0, 0))) ∧ Aside0 (w'.heap[w.heap.size + 1]? = some (.cells #[.int .i64 a1_0, .int .i64 a1_1] 28 (0, 0))) ∧ Aside0 (Kd.R (Kd.int .i64) 3 w' w.heap.size (fun _ => True) v6 acc) ∧ Aside0 (Below w.heap.size w w'))
 case atStart => exact ⟨⟨a0_0, ⟨a0_1, a0_2⟩, l0_3⟩, A0_3, c0_3, [], 0, rfl, HH, ⟨C0.out, hc0_3⟩, H2, H3, ⟨Kd.R_nil _ _ _ _ _⟩, HB⟩
 case round =>
  clear HH C0 Cn H2 H3 HB; obtain ⟨n, A, cc, acc, fr, rfl, HA, HC, HG, HS, HO, HB⟩ := hrel
  cases gk with
  | zero => exact absurd HA.out (by simp [tree_Cover.l0])
  | succ kq =>
  have H := HA.out; rw [tree_Cover.l0] at H; have HL := Aside0.mk H; clear HA H; obtain ⟨z0, z1, z2, z3⟩ := Cl.four HG.out; obtain ⟨s0, s1⟩ := Cl.two HS.out; have hmax : n.f2.length ≤ 9223372036854775807 := HC.out.1.2.1; go_wp2_with fail
  go_loopg [8, 9, 10, 38] kq (fun kq2 v8 v9 v10 v38 w' => ∃ (nx bg at_ : Int) (i : Nat), v8 = .int .i64 nx ∧ v9 = .int .i64 bg ∧ v10 = .int .i64 at_ ∧ v38 = .int .i64 (i : Int) ∧ Aside0 (kq2 ≤ kq) ∧ Aside0 (tree_Cover.l1 kq2 acc nx bg at_ n.f2 (n.f2.length : Int) (i : Int) n.f0 n.f1.f0 n.f1.f1 n.f2 a1_0 a1_1 = some (r1, r2)) ∧ Aside0 (w'.heap[w.heap.size]? = some (.cells #[.int .i64 n.f0, .int .i64 n.f1.f0, .string n.f1.f1, .slice A n.f2.length cc] 26 (0, 0))) ∧ Aside0 (w'.heap[w.heap.size + 1]? = some (.cells #[.int .i64 a1_0, .int .i64 a1_1] 28 (0, 0))) ∧ Aside0 (Kd.R (Kd.int .i64) 3 w' w.heap.size (fun _ => True) u6 acc) ∧ Aside0 (Below w.heap.size w w'))
  case atStart => exact ⟨-1, 0, fr, 0, rfl, rfl, rfl, rfl, ⟨Nat.le_refl _⟩, HL, HG, HS, HO, HB⟩
  case round =>
   clear HL HG HS HO HB z0 z1 z2 z3 s0 s1; obtain ⟨nx, bg, at_, i, rfl, rfl, rfl, rfl, HK, HL, HG, HS, HO, HB⟩ := hrel
   cases gk with
   | zero => exact absurd HL.out (by simp [tree_Cover.l1])
   | succ kq2 =>
   have H := HL.out; simp only [tree_Cover.l1] at H; clear HL; obtain ⟨s0, s1⟩ := Cl.two HS.out; by_cases hlt : (i : Int) < (n.f2.length : Int)
   ·rw [if_pos hlt] at H; rw [if_pos (by omega), if_pos hlt] at H; obtain ⟨t, ht, H⟩ := Option.bind_eq_some_iff.mp H; have hd1 : decide ((i : Int) < (n.f2.length : Int)) = true := decide_eq_true hlt
    have hin : i < n.f2.length := (by omega)
    have hrd : rd_T26 n.f2 (i : Int) = n.f2[i] := (by simp [rd_T26, hin])
    obtain ⟨ad, A3, c3, e, hx0, hx1, hx2, hx3, hl3, hC3⟩ := at_T26 HC.out.1 (i : Int) (by omega) hlt; rw [hrd] at hx0 hx1 hx2 hx3 hl3 hC3 ht; rw [Int.toNat_natCast] at hx0 hx1 hx2 hx3; subst e; replace hx0 := zh HB hx0; replace hx1 := zh HB hx1; replace hx2 := zh HB hx2; replace hx3 := zh HB hx3; clear hrd; generalize n.f2[i] = y at *; have E2 := Aside0.mk ht; have HC3 := Aside0.mk (And.intro hC3 hl3); have hal := below_alloc (Below.refl wr.heap.size wr) (.cells #[.int .i64 y.f0, .int .i64 y.f1.f0, .string y.f1.f1, .slice A3 y.f2.length c3] 26); have HB1 := Aside0.mk (Cl.bstep HB.out hal); have HG1 := Aside0.mk (blk_below HG.out hal); have HS1 := Aside0.mk (blk_below HS.out hal); have HO1 := Aside0.mk (Kd.R_below HO.out hal); have HY1 := Aside0.mk (blk_new wr (.cells #[.int .i64 y.f0, .int .i64 y.f1.f0, .string y.f1.f1, .slice A3 y.f2.length c3] 26)); clear ht hC3 hl3 hal HO HG HS
    obtain ⟨atN, hatN⟩ : ∃ a : Int, wrap64 (at_ + t) = a := ⟨_, rfl⟩
    rw [hatN] at H
    have ei : wrap64 ((i : Int) + 1) = ((i + 1 : Nat) : Int) := (by (unfold wrap64; omega))
    rw [ei] at H; clear ei; by_cases c1 : at_ ≤ a1_0
    ·rw [if_pos c1] at H; have d1 : decide (at_ ≤ a1_0) = true := decide_eq_true c1; by_cases c2 : a1_1 ≤ atN
     ·rw [if_pos c2] at H; have d2 : decide (a1_1 ≤ atN) = true := decide_eq_true c2; have HL2 := Aside0.mk H; clear H
      go_wp2_with (go_at_call 55; refine (tree_width.calls kq2 _ _ _ _ _ _ _ _ (Kd.C_below HC3.out.1 HB1.out) HC3.out.2 E2.out).mono ?_; rintro e w3 ⟨rfl, hb⟩; have HB3 := Aside0.mk (Cl.bstep HB1.out hb); have HG3 := Aside0.mk (blk_below HG1.out hb); have HS3 := Aside0.mk (blk_below HS1.out hb); have HO3 := Aside0.mk (Kd.R_below HO1.out hb); obtain ⟨q0, q1⟩ := Cl.two HS3.out; clear hb)
      go_roundg kq2
      case measure => omega
      case rel => exact ⟨i, at_, atN, i + 1, by go_num, by go_num, by go_num, by go_num, ⟨by have := HK.out; omega⟩, HL2, HG3, HS3, HO3, HB3⟩
     ·rw [if_neg c2] at H; have d2 : decide (a1_1 ≤ atN) = false := decide_eq_false c2; have HL2 := Aside0.mk H; clear H
      go_wp2_with (go_at_call 55; refine (tree_width.calls kq2 _ _ _ _ _ _ _ _ (Kd.C_below HC3.out.1 HB1.out) HC3.out.2 E2.out).mono ?_; rintro e w3 ⟨rfl, hb⟩; have HB3 := Aside0.mk (Cl.bstep HB1.out hb); have HG3 := Aside0.mk (blk_below HG1.out hb); have HS3 := Aside0.mk (blk_below HS1.out hb); have HO3 := Aside0.mk (Kd.R_below HO1.out hb); obtain ⟨q0, q1⟩ := Cl.two HS3.out; clear hb)
      go_roundg kq2
      case measure => omega
      case rel => exact ⟨nx, bg, atN, i + 1, by go_num, by go_num, by go_num, by go_num, ⟨by have := HK.out; omega⟩, HL2, HG3, HS3, HO3, HB3⟩
    ·rw [if_neg c1] at H; have d1 : decide (at_ ≤ a1_0) = false := decide_eq_false c1; have HL2 := Aside0.mk H; clear H
     go_wp2_with (go_at_call 55; refine (tree_width.calls kq2 _ _ _ _ _ _ _ _ (Kd.C_below HC3.out.1 HB1.out) HC3.out.2 E2.out).mono ?_; rintro e w3 ⟨rfl, hb⟩; have HB3 := Aside0.mk (Cl.bstep HB1.out hb); have HG3 := Aside0.mk (blk_below HG1.out hb); have HS3 := Aside0.mk (blk_below HS1.out hb); have HO3 := Aside0.mk (Kd.R_below HO1.out hb); obtain ⟨q0, q1⟩ := Cl.two HS3.out; clear hb)
     go_roundg kq2
     case measure => omega
     case rel => exact ⟨nx, bg, atN, i + 1, by go_num, by go_num, by go_num, by go_num, ⟨by have := HK.out; omega⟩, HL2, HG3, HS3, HO3, HB3⟩
   ·rw [if_neg hlt] at H; have hd1 : decide ((i : Int) < (n.f2.length : Int)) = false := decide_eq_false hlt; by_cases c4 : nx < 0
    ·rw [if_pos c4] at H; simp only [Option.some.injEq, Prod.mk.injEq] at H; obtain ⟨rfl, rfl⟩ := H; have d4 : decide (nx < 0) = true := decide_eq_true c4; go_wp2
     (try rw [Exit.noGoto_ret])
     go_ret2
     exact ⟨_, rfl, HO.out, HB.out⟩
    ·rw [if_neg c4] at H; obtain ⟨hlen, H⟩ := Ut.ite_some H; obtain ⟨hn0, H⟩ := Ut.ite_some H; obtain ⟨hn1, H⟩ := Ut.ite_some H; have HL2 := Aside0.mk H; have d4 : decide (nx < 0) = false := decide_eq_false c4; clear H; obtain ⟨j, rfl⟩ := Int.eq_ofNat_of_zero_le hn0
     have hin : j < n.f2.length := (by omega)
     have hrd : rd_T26 n.f2 (j : Int) = n.f2[j] := (by simp [rd_T26, hin])
     obtain ⟨ad, A3, c3, e, hx0, hx1, hx2, hx3, hl3, hC3⟩ := at_T26 HC.out.1 (j : Int) (by omega) hn1; rw [hrd] at hx0 hx1 hx2 hx3 hl3 hC3; rw [Int.toNat_natCast] at hx0 hx1 hx2 hx3; subst e; have h2 := HL2.out; rw [hrd] at h2; have HL3 := Aside0.mk h2; clear h2 HL2 hrd; generalize n.f2[j] = y at *; have HC3 := Aside0.mk (And.intro hC3 hl3); have HX := Aside0.mk (And.intro hx0 (And.intro hx1 (And.intro hx2 hx3))); clear hC3 hl3 hx0 hx1 hx2 hx3; obtain ⟨z0, z1, z2, z3⟩ := Cl.four HG.out
     go_wp2_with (first | (at_builtin; refine Kd.R_append (Kd.int .i64) (w0 := w) w.heap.size rfl (.tmp 66) (.tmp 68) 30 3 (.int .i64 0) 8 rfl Try.underlying30 tree_Cover.info rfl (by decide) (by omega) u6 acc (j : Int) [.int .i64 (j : Int)] (fun _ => True) (fun _ => False) rfl rfl rfl (fun _ hk => hk.elim) (fun _ _ => trivial) HO.out HB.out (below_size HB.out) (by omega) ?_; intro v8 w4 ho hb hg hat; have HB4 := Aside0.mk hb; have HO4 := Aside0.mk ho; have HG4 := Aside0.mk (blk_grown HG.out hg (Kd.R_ne HO.out HG.out (by decide))); have HS4 := Aside0.mk (blk_grown HS.out hg (Kd.R_ne HO.out HS.out (by decide))); clear ho hb hg hat; obtain ⟨z0, z1, z2, z3⟩ := Cl.four HG4.out; obtain ⟨f0, f1, f2, f3⟩ := Cl.ffour HG4.out; obtain ⟨x0, x1, x2, x3⟩ := HX.out; replace x0 := (HB4.out.cell (World.block_lt_of_cell? w _ x0)).trans x0; replace x1 := (HB4.out.cell (World.block_lt_of_cell? w _ x1)).trans x1; replace x2 := (HB4.out.cell (World.block_lt_of_cell? w _ x2)).trans x2; replace x3 := (HB4.out.cell (World.block_lt_of_cell? w _ x3)).trans x3))
     go_roundg kq2
     case measure => have := HK.out; omega
     case rel => exact ⟨y, A3, c3, acc ++ [(j : Int)], bg, by go_num, HL3, HC3, ⟨by refine blk_put (cs := #[.int .i64 y.f0, .int .i64 y.f1.f0, .string y.f1.f1, .slice (some ad) n.f2.length cc]) ?_ 3 _ rfl; refine blk_put (cs := #[.int .i64 y.f0, .int .i64 y.f1.f0, .string n.f1.f1, .slice (some ad) n.f2.length cc]) ?_ 2 _ rfl; refine blk_put (cs := #[.int .i64 y.f0, .int .i64 n.f1.f0, .string n.f1.f1, .slice (some ad) n.f2.length cc]) ?_ 1 _ rfl; refine blk_put (cs := #[.int .i64 n.f0, .int .i64 n.f1.f0, .string n.f1.f1, .slice (some ad) n.f2.length cc]) ?_ 0 _ rfl; exact HG4.out⟩, ⟨(Below.heap_setCell _ _ _ _ (by simp)).trans ((Below.heap_setCell _ _ _ _ (by simp)).trans ((Below.heap_setCell _ _ _ _ (by simp)).trans ((Below.heap_setCell _ _ _ _ (by simp)).trans (HS4.out))))⟩, ⟨by refine Kd.R_set (Kd.R_set (Kd.R_set (Kd.R_set HO4.out HG4.out ?ht 0 _) (blk_put HG4.out 0 _ rfl) ?ht 1 _) (blk_put (blk_put HG4.out 0 _ rfl) 1 _ rfl) ?ht 2 _) (blk_put (blk_put (blk_put HG4.out 0 _ rfl) 1 _ rfl) 2 _ rfl) ?ht 3 _; intro q hq e; subst e; revert hq; decide⟩, ⟨by repeat (first | exact HB4.out | refine below_set ?_ (Nat.le_refl _))⟩⟩

end Go.Proofs.Ytnafnieocpkkhaa.P

set_option linter.unusedVariables false
set_option linter.unusedSimpArgs false
namespace Go.Proofs.Ytnafnieocpkkhaa.P
open Go.RowKit Go.Proofs.YtnafnieocpkkhaaW.PrintWords Go.Proofs.YtnafnieocpkkhaaW.PrintLast Go.Proofs.YtnafnieocpkkhaaW.PrintMore
def isF (n : Nd) : Prop := ∃ m, fo m n = true
theorem isF.of_fmd {n : Nd} (h : fmd n = true) : isF n := ⟨1001, (Bool.and_eq_true_iff.1 h).1⟩
theorem isF.leaf {n : Nd} (h : isF n) (h1 : n.f0 = 1) : n.f2 = [] ∧ 0 < n.f1.f1.size := by
 obtain ⟨m, h⟩ := h
 cases m with
 | zero => cases h
 | succ m =>
  rw [fo, if_pos h1, Bool.and_eq_true, decide_eq_true_eq] at h; exact ⟨List.eq_nil_of_length_eq_zero h.1, (of_decide_eq_true h.2).1⟩
theorem isF.node {n : Nd} (h : isF n) (h1 : ¬ n.f0 = 1) : n.f1.f1.size = 0 ∧ n.f1.f0 = 0 := by
 obtain ⟨m, h⟩ := h
 cases m with
 | zero => cases h
 | succ m =>
  rw [fo, if_neg h1, Bool.and_eq_true, Bool.and_eq_true, Bool.and_eq_true, Bool.and_eq_true, beq_iff_eq, beq_iff_eq, Lib.toList_data] at h; have := congrArg List.length h.1.1.2.2; rw [isize] at this; exact ⟨this, h.1.1.2.1⟩
theorem isF.kid {n x : Nd} (h : isF n) (hx : x ∈ n.f2) : isF x := by
 obtain ⟨m, h⟩ := h
 cases m with
 | zero => cases h
 | succ m =>
  rw [fo] at h
  split at h
  ·rw [Bool.and_eq_true, decide_eq_true_eq] at h; rw [List.eq_nil_of_length_eq_zero h.1] at hx
   cases hx
  ·rw [Bool.and_eq_true] at h; exact ⟨m, List.all_eq_true.1 h.2 x hx⟩
theorem isF.at {p : List Int} {n x : Nd} {o : Nat} (h : isF n) (hx : atp p n = some (x, o)) : isF x := by
 obtain ⟨m, h⟩ := h; exact atp_fo h hx
theorem isF.wd {n : Nd} (h : isF n) (h1 : ¬ n.f0 = 1) : P.wd n = wds n.f2 := by
 rw [wd_wds, (h.node h1).1, Nat.zero_add]
theorem isF.lv : ∀ {n : Nd}, isF n → (0 < lv n ↔ 0 < P.wd n) := by
 suffices H : ∀ n, isF n → (0 < P.lv n ↔ 0 < P.wd n) from fun {n} => H n
 refine Nd.ind ?_; intro n ih h; rw [lv_eq]; by_cases h1 : n.f0 = 1
 ·rw [if_pos h1, wd_wds]; have := (h.leaf h1).2
  omega
 ·rw [if_neg h1, h.wd h1]; unfold wds
  have : ∀ l : List Nd, (∀ x ∈ l, x ∈ n.f2) → (0 < (l.map P.lv).sum ↔ 0 < (l.map P.wd).sum) := by
   intro l
   induction l with
   | nil => intro _; exact Iff.rfl
   | cons y r ihl =>
    intro hl; have e1 := ih y (hl y List.mem_cons_self) (h.kid (hl y List.mem_cons_self)); have e2 := ihl (fun z hz => hl z (List.mem_cons_of_mem _ hz)); simp only [List.map_cons, List.sum_cons]
    omega
  exact this n.f2 (fun _ h => h)
theorem rwidth_loop (n : Nd) (hl : n.f2.length < 1000000) : ∀ (r : List Nd) (i acc : Nat), n.f2.drop i = r → acc + wds r ≤ 1000000000 → (∀ x ∈ r, Ev (fun k => marginaliaref05_Width.f k x.f0 x.f1.f0 x.f1.f1 x.f2) (wd x : Int)) →
  Ev (fun k => marginaliaref05_Width.l0 k (acc : Int) (i : Int) n.f0 n.f1.f0 n.f1.f1 n.f2) ((acc + wds r : Nat) : Int) := by
 intro r
 induction r with
 | nil =>
  intro i acc hd hs hx; have := le_of_nil hd; refine Ev.shift ?_; simp only [marginaliaref05_Width.l0, wds, List.map_nil, List.sum_nil, Nat.add_zero]; exact Ev.neg (by omega) (Ev.now _)
 | cons e r ih =>
  intro i acc hd hs hx; have hlt := lt_of_drop hd; simp only [wds, List.map_cons, List.sum_cons] at hs ⊢; refine Ev.shift ?_; simp only [marginaliaref05_Width.l0]; rw [rd_nd hd]; refine Ev.pos (by omega) (Ev.pos (by omega) (Ev.bind (hx e (List.mem_cons_self)) ?_)); rw [w64 (n := (acc : Int) + (wd e : Int)) (by omega) (by omega), w64 (n := (i : Int) + 1) (by omega) (by omega)]; have := ih (i + 1) (acc + wd e) (drop_next hd) (by unfold wds; omega) (fun x h => hx x (List.mem_cons_of_mem _ h)); rw [show acc + (wd e + (r.map wd).sum) = acc + wd e + wds r by unfold wds; omega]
  exact_mod_cast this
theorem rwidth_ev : ∀ n : Nd, sm n → isF n → Ev (fun k => marginaliaref05_Width.f k n.f0 n.f1.f0 n.f1.f1 n.f2) (wd n : Int) := by
 refine Nd.ind ?_; intro n ih hs hf; refine Ev.shift ?_; simp only [marginaliaref05_Width.f]; by_cases h : n.f0 = 1
 ·refine Ev.pos h ?_; rw [wd_wds, (hf.leaf h).1]; exact Ev.now _
 ·refine Ev.neg h ?_; have := rwidth_loop n hs.len n.f2 0 0 rfl (by rw [← hf.wd h]; have := hs.1; omega) (fun x hx => ih x hx (hs.kid hx) (hf.kid hx)); rw [Nat.zero_add, ← hf.wd h] at this
  exact_mod_cast this
/-! ### Find -/
theorem wds_cons (x : Nd) (l : List Nd) : wds (x :: l) = wd x + wds l := by unfold wds; simp
theorem pick : ∀ (l : List Nd) (off : Nat), off < wds l → wds l ≤ 1000000000 → (∀ x ∈ l, sm x) → ∃ (j : Nat) (x : Nd), l[j]? = some x ∧ wds (l.take j) ≤ off ∧ off < wds (l.take j) + wd x ∧ ∃ K, ∀ k, K ≤ k → ∀ i, tree_Find.scan k l (off : Int) i = some (i + j, x, ((off - wds (l.take j) : Nat) : Int)) := by
 intro l
 induction l with
 | nil => intro off h; exact absurd h (Nat.not_lt_zero _)
 | cons y r ih =>
  intro off h hz hs; rw [wds_cons] at h hz; have hy := hs y List.mem_cons_self; obtain ⟨K1, h1⟩ : ∃ K, ∀ k, K ≤ k → tree_width.f k y.f0 y.f1.f0 y.f1.f1 y.f2 = some (wd y : Int) := width_ev y hy.1 hy.2; by_cases h2 : off < wd y
  ·refine ⟨0, y, rfl, Nat.zero_le _, by simpa [wds] using h2, K1, fun k hk i => ?_⟩; rw [tree_Find.scan, h1 k hk, Option.bind_some, if_pos (by omega)]; rfl
  ·obtain ⟨j, x, q1, q2, q3, K2, q4⟩ := ih (off - wd y) (by omega) (by omega) (fun x hx => hs x (List.mem_cons_of_mem _ hx)); refine ⟨j + 1, x, q1, ?_, ?_, max K1 K2, fun k hk i => ?_⟩
   ·rw [List.take_succ_cons, wds_cons]; omega
   ·rw [List.take_succ_cons, wds_cons]; omega
   ·rw [tree_Find.scan, h1 k (by omega), Option.bind_some, if_neg (by omega), w64 (n := (off : Int) - (wd y : Int)) (by omega) (by omega)]; have := q4 k (by omega) (i + 1); rw [show ((off : Int) - (wd y : Int)) = ((off - wd y : Nat) : Int) by omega, this, List.take_succ_cons, wds_cons, show i + 1 + j = i + (j + 1) by omega, show off - wd y - wds (r.take j) = off - (wd y + wds (r.take j)) by omega]
theorem rfind_l2 (n : Nd) (hs : sm n) (hf : isF n) (h1 : ¬ n.f0 = 1) (j : Nat) (x : Nd) (hx : n.f2[j]? = some x) (acc : List Int) (hacc : acc.length ≤ 10000000) {R : List Int × Bool} (roff : Nat) (hr : wds (n.f2.take j) ≤ roff) (hro : roff ≤ wd n)
  (H : Ev (fun k => marginaliaref05_Find.l0 k ((roff - wds (n.f2.take j) : Nat) : Int) (acc ++ [(j : Int)]) x.f0 x.f1.f0 x.f1.f1 x.f2) R) : ∀ (d i : Nat), i + d = j →
  Ev (fun k => marginaliaref05_Find.l2 k ((roff - wds (n.f2.take i) : Nat) : Int) acc (j : Int) (i : Int) n.f0 n.f1.f0 n.f1.f1 n.f2) R := by
 have hj : j < n.f2.length := by
  rcases Nat.lt_or_ge j n.f2.length with h | h
  ·exact h
  ·rw [List.getElem?_eq_none h] at hx; cases hx
 have hlen := hs.len; have hwn := hs.1; intro d
 induction d with
 | zero =>
  intro i hi
  obtain rfl : i = j := (by omega)
  refine Ev.shift ?_; simp only [marginaliaref05_Find.l2]; rw [rd_at hx]; exact Ev.neg (by omega) (Ev.pos (by omega) (Ev.pos (by omega) (Ev.pos (by omega) H)))
 | succ d ih =>
  intro i hi
  have hil : i < n.f2.length := (by omega)
  have hy : n.f2[i]? = some (n.f2[i]'hil) := List.getElem?_eq_getElem hil; generalize n.f2[i]'hil = y at hy; have hym := List.mem_of_getElem? hy; refine Ev.shift ?_; simp only [marginaliaref05_Find.l2]; rw [rd_at hy]; have e1 := wds_take_succ hy
  have e2 : wds (n.f2.take (i + 1)) ≤ wds (n.f2.take j) := by
   have := wds_take_le (n.f2.take j) (i + 1)
   rwa [List.take_take, Nat.min_eq_left (by omega)] at this
  refine Ev.pos (by omega) (Ev.pos (by omega) (Ev.pos (by omega) (Ev.bind (rwidth_ev y (hs.kid hym) (hf.kid hym)) ?_))); rw [w64 (n := ((roff - wds (n.f2.take i) : Nat) : Int) - (wd y : Int)) (by omega) (by omega), w64 (n := (i : Int) + 1) (by omega) (by omega)]; have := ih (i + 1) (by omega); rw [e1, show roff - (wds (n.f2.take i) + wd y) = roff - wds (n.f2.take i) - wd y by omega] at this; rw [show ((roff - wds (n.f2.take i) : Nat) : Int) - (wd y : Int) = ((roff - wds (n.f2.take i) - wd y : Nat) : Int) by omega]
  exact_mod_cast this
theorem rfind_l1 (n : Nd) (hs : sm n) (hf : isF n) (h1 : ¬ n.f0 = 1) (j : Nat) (x : Nd) (hx : n.f2[j]? = some x) (acc : List Int) {R : List Int × Bool} (off roff : Nat) (ho : min roff (wd n - 1) = off) (hro : roff ≤ wd n) (hw : 0 < wd n) (hj1 : wds (n.f2.take j) ≤ off) (hj2 : off < wds (n.f2.take j) + wd x)
  (H : Ev (fun k => marginaliaref05_Find.l2 k (roff : Int) acc (j : Int) 0 n.f0 n.f1.f0 n.f1.f1 n.f2) R) : ∀ (r : List Nd) (i : Nat) (best : Int), n.f2.drop i = r → (j < i → best = (j : Int)) →
  Ev (fun k => marginaliaref05_Find.l1 k (roff : Int) acc best (wds (n.f2.take i) : Int) (i : Int) n.f0 n.f1.f0 n.f1.f1 n.f2) R := by
 have hj : j < n.f2.length := by
  rcases Nat.lt_or_ge j n.f2.length with h | h
  ·exact h
  ·rw [List.getElem?_eq_none h] at hx; cases hx
 have hlen := hs.len; have hwn := hs.1; have hww := hf.wd h1; intro r
 induction r with
 | nil =>
  intro i best hd hb; have := le_of_nil hd; refine Ev.shift ?_; simp only [marginaliaref05_Find.l1]; rw [hb (by omega)]; exact Ev.neg (by omega) H
 | cons e r ih =>
  intro i best hd hb; have hlt := lt_of_drop hd
  have hy : n.f2[i]? = some e := by
   have := congrArg (fun x : List Nd => x[0]?) hd
   simpa [List.getElem?_drop] using this
  have hym := List.mem_of_getElem? hy; have e1 := wds_take_succ hy; have e2 := wds_split hy; have hlv := (hf.kid hym).lv; have hlvle := lv_le e; have hsn := (hs.kid hym).2; refine Ev.shift ?_; simp only [marginaliaref05_Find.l1]; rw [rd_at hy]; refine Ev.pos (by omega) (Ev.pos (by omega) (Ev.bind (rwidth_ev e (hs.kid hym) (hf.kid hym)) (Ev.bind (rleaves_ev e (hs.kid hym)) ?_))); rw [w64 (n := (wds (n.f2.take i) : Int) + (wd e : Int)) (by omega) (by omega), w64 (n := (i : Int) + 1) (by omega) (by omega)]
  have next : ∀ b : Int, (j < i + 1 → b = (j : Int)) → Ev (fun k => marginaliaref05_Find.l1 k (roff : Int) acc b ((wds (n.f2.take i) : Int) + (wd e : Int)) ((i : Int) + 1) n.f0 n.f1.f0 n.f1.f1 n.f2) R := by
   intro b hb; have := ih (i + 1) b (drop_next hd) hb; rw [e1] at this
   exact_mod_cast this
  by_cases hij : i = j
  ·subst hij; rw [hx] at hy; injection hy with hy; subst hy; refine Ev.pos (by omega) (Ev.pos (by omega) (next _ (fun _ => rfl)))
  ·by_cases hij2 : i < j
   ·by_cases hl : (lv e : Int) > 0
    ·refine Ev.pos hl ?_; by_cases ha : (wds (n.f2.take i) : Int) ≤ (roff : Int)
     ·exact Ev.pos ha (next _ (fun h => by omega))
     ·exact Ev.neg ha (next _ (fun h => by omega))
    ·exact Ev.neg hl (next _ (fun h => by omega))
   ·have e3 : wds (n.f2.take j) + wd x ≤ wds (n.f2.take i) := by
     rw [← wds_take_succ hx]; have := wds_take_le (n.f2.take i) (j + 1)
     rwa [List.take_take, Nat.min_eq_left (by omega)] at this
    by_cases hl : (lv e : Int) > 0
    ·refine Ev.pos hl (Ev.neg ?_ (next _ (fun h => hb (by omega)))); have : 0 < wd e := hlv.1 (by omega)
     omega
    ·exact Ev.neg hl (next _ (fun h => hb (by omega)))
theorem find_both : ∀ n : Nd, sm n → isF n → ∀ off, off < wd n → ∃ (p : List Int) (x : Nd) (o : Nat), atp p n = some (x, o) ∧ x.f0 = 1 ∧ o ≤ off ∧ off < o + wd x ∧ p.length ≤ nd n ∧
  (∀ acc : List Int, acc.length + nd n ≤ 10000000 → ∃ K, ∀ k m, K ≤ k → K ≤ m → tree_Find.go k m n (off : Int) acc = some (acc ++ p)) ∧
  (∀ (roff : Nat) (acc : List Int), min roff (wd n - 1) = off → roff ≤ wd n → acc.length + nd n ≤ 10000000 → Ev (fun k => marginaliaref05_Find.l0 k (roff : Int) acc n.f0 n.f1.f0 n.f1.f1 n.f2) (acc ++ p, true)) := by
 refine Nd.ind ?_; intro n ih hs hf off ho; by_cases h1 : n.f0 = 1
 ·refine ⟨[], n, 0, rfl, h1, Nat.zero_le _, by omega, Nat.zero_le _, fun acc _ => ⟨1, fun k m _ hm => ?_⟩, fun roff acc _ _ _ => Ev.shift ?_⟩
  ·obtain ⟨m, rfl⟩ : ∃ m', m = m' + 1 := ⟨m - 1, by omega⟩
   rw [tree_Find.go, if_pos h1, List.append_nil]
  ·simp only [marginaliaref05_Find.l0]; rw [List.append_nil]; exact Ev.pos h1 (Ev.now _)
 ·have hww := hf.wd h1; have hwn := hs.1; obtain ⟨j, x, hx, hj1, hj2, K1, hK1⟩ := pick n.f2 off (by omega) (by omega) (fun x hx => hs.kid hx); have hxm := List.mem_of_getElem? hx; obtain ⟨p, y, o, q1, q2, q3, q4, q5, q6, q7⟩ := ih x hxm (hs.kid hxm) (hf.kid hxm) (off - wds (n.f2.take j)) (by omega)
  have hn2 : nd x + 1 ≤ nd n := by
   have := sum_mem (f := nd) hxm; rw [nd_eq n]
   omega
  refine ⟨(j : Int) :: p, y, wds (n.f2.take j) + o, ?_, q2, by omega, by omega, by rw [List.length_cons]; omega, fun acc ha => ?_, fun roff acc hr1 hr2 ha => ?_⟩
  ·rw [atp, if_pos (by omega), Int.toNat_natCast, hx, Option.bind_some, q1]; rfl
  ·obtain ⟨K2, hK2⟩ := q6 (acc ++ [(j : Int)]) (by rw [List.length_append]; simp only [List.length_cons, List.length_nil]; omega); refine ⟨max K1 K2 + 1, fun k m hk hm => ?_⟩
   obtain ⟨m, rfl⟩ : ∃ m', m = m' + 1 := ⟨m - 1, by omega⟩
   rw [tree_Find.go, if_neg h1, hK1 k (by omega) 0, Option.bind_some, if_pos (by omega), Nat.zero_add]
   show tree_Find.go k m x ((off - wds (n.f2.take j) : Nat) : Int) (acc ++ [(j : Int)]) = _
   rw [hK2 k m (by omega) (by omega), List.append_assoc]; rfl
  ·refine Ev.shift ?_; simp only [marginaliaref05_Find.l0]; refine Ev.neg h1 ?_
   have e3 : wds (n.f2.take j) + wd x ≤ wd n := (by rw [hww]; exact wds_split hx)
   have H0 := q7 (roff - wds (n.f2.take j)) (acc ++ [(j : Int)]) (by omega) (by
    by_cases hh : roff < wd n
    ·omega
    ·omega) (by rw [List.length_append]; simp only [List.length_cons, List.length_nil]; omega)
   rw [List.append_assoc] at H0; have H1 := rfind_l2 n hs hf h1 j x hx acc (by omega) roff (by omega) hr2 H0 j 0 (by omega); have e0 : wds (n.f2.take 0) = 0 := rfl; rw [e0, Nat.sub_zero] at H1; have H2 := rfind_l1 n hs hf h1 j x hx acc off roff hr1 hr2 (by omega) hj1 hj2 H1 n.f2 0 (-1) rfl (fun h => by omega); rw [e0] at H2; exact H2
theorem Find_ev (n : Nd) (hs : sm n) (hf : fmd n = true) (off : Nat) (ho : off ≤ wd n) (hw : 0 < wd n) : ∃ (p : List Int) (x : Nd) (o : Nat), atp p n = some (x, o) ∧ x.f0 = 1 ∧ o ≤ min off (wd n - 1) ∧ min off (wd n - 1) < o + wd x ∧ p.length ≤ 1000000 ∧
  Ev (fun k => tree_Find.f k n.f0 n.f1.f0 n.f1.f1 n.f2 (off : Int)) (p, 0) ∧ Ev (fun k => marginaliaref05_Find.f k n.f0 n.f1.f0 n.f1.f1 n.f2 (off : Int)) (p, true) := by
 obtain ⟨p, x, o, q1, q2, q3, q4, q5, q6, q7⟩ := find_both n hs (isF.of_fmd hf) (min off (wd n - 1)) (by omega); have hn := hs.2; have hwn := hs.1; refine ⟨p, x, o, q1, q2, q3, q4, by omega, ?_, ?_⟩
 ·obtain ⟨K, hK⟩ := q6 [] (by simp; omega); unfold tree_Find.f; refine Ev.bind (IsFormed_ev n hs) (Ev.pos hf (Ev.bind (width_ev n hs.1 hs.2) (Ev.neg (by omega) (Ev.neg (by omega) (Ev.neg (by omega) ?_))))); refine Ev.bind (a := p) ⟨K, fun k hk => ?_⟩ (Ev.now _)
  show tree_Find.go k k ⟨n.f0, ⟨n.f1.f0, n.f1.f1⟩, n.f2⟩ _ [] = some p
  rw [Nd.eta, w64 (n := (wd n : Int) - 1) (by omega) (by omega), show (wd n : Int) - 1 = ((wd n - 1 : Nat) : Int) by omega, mn_nat]; exact hK k k hk hk
 ·unfold marginaliaref05_Find.f; have hl := (isF.of_fmd hf).lv.2 hw; exact Ev.bind (rleaves_ev n hs) (Ev.neg (by omega) (q7 off [] rfl ho (by simp; omega)))
/-! ### Cover -/
def nxt : Option (Nat × Nat) → Int
 | none => -1
 | some (i, _) => (i : Int)
def bgn : Option (Nat × Nat) → Int
 | none => 0
 | some (_, b) => (b : Int)
/-- The last kid that holds a span, and where it begins. -/
def lastc (F T : Nat) : List Nd → Nat → Nat → Option (Nat × Nat) → Option (Nat × Nat)
 | [], _, _, cur => cur
 | x :: r, a, i, cur => lastc F T r (a + wd x) (i + 1) (if a ≤ F ∧ T ≤ a + wd x then some (i, a) else cur)
def holds (F T a : Nat) (l : List Nd) (j : Nat) (x : Nd) : Prop := l[j]? = some x ∧ a + wds (l.take j) ≤ F ∧ T ≤ a + wds (l.take j) + wd x
theorem lastc_spec (F T : Nat) (l : List Nd) (a : Nat) : ∀ (r : List Nd) (i : Nat) (cur : Option (Nat × Nat)), l.drop i = r →
  (∀ j b, cur = some (j, b) → ∃ x, holds F T a l j x ∧ b = a + wds (l.take j)) → (cur = none → ∀ j x, j < i → ¬ holds F T a l j x) →
  (∀ j b, lastc F T r (a + wds (l.take i)) i cur = some (j, b) → ∃ x, holds F T a l j x ∧ b = a + wds (l.take j)) ∧ (lastc F T r (a + wds (l.take i)) i cur = none → ∀ j x, ¬ holds F T a l j x) := by
 intro r
 induction r with
 | nil =>
  intro i cur hd h1 h2; refine ⟨h1, fun h j x hh => ?_⟩; have := le_of_nil hd; by_cases hj : j < i
  ·exact h2 h j x hj hh
  ·have := hh.1; rw [List.getElem?_eq_none (by omega)] at this
   cases this
 | cons e r ih =>
  intro i cur hd h1 h2
  have hy : l[i]? = some e := by
   have := congrArg (fun x : List Nd => x[0]?) hd
   simpa [List.getElem?_drop] using this
  have e1 := wds_take_succ hy; rw [lastc]; have := ih (i + 1) (if a + wds (l.take i) ≤ F ∧ T ≤ a + wds (l.take i) + wd e then some (i, a + wds (l.take i)) else cur) (drop_next hd) ?_ ?_
  ·rw [e1, ← Nat.add_assoc] at this; exact this
  ·intro j b hc
   split at hc
   ·rename_i hh
    injection hc with hc; injection hc with c1 c2; subst c1; exact ⟨e, ⟨hy, hh.1, hh.2⟩, c2.symm⟩
   ·exact h1 j b hc
  ·intro hc j x hj hh
   split at hc
   ·cases hc
   ·rename_i hn
    by_cases hji : j < i
    ·exact h2 hc j x hji hh
    ·obtain rfl : j = i := (by omega)
     obtain ⟨g1, g2, g3⟩ := hh; rw [hy] at g1; injection g1 with g1; subst g1; exact hn ⟨g2, g3⟩
theorem cover_loop (n : Nd) (hs : sm n) (F T a : Nat) (ha : a + wd n ≤ 1000000000) (acc : List Int) {R : List Int × Int} (fin : Option (Nat × Nat)) (H : Ev (fun k => tree_Cover.l1 k acc (nxt fin) (bgn fin) ((a + wds n.f2 : Nat) : Int) n.f2 (n.f2.length : Int) (n.f2.length : Int) n.f0 n.f1.f0 n.f1.f1 n.f2 (F : Int) (T : Int)) R) : ∀ (r : List Nd) (i : Nat) (cur : Option (Nat × Nat)), n.f2.drop i = r → i ≤ n.f2.length → lastc F T r (a + wds (n.f2.take i)) i cur = fin →
  Ev (fun k => tree_Cover.l1 k acc (nxt cur) (bgn cur) ((a + wds (n.f2.take i) : Nat) : Int) n.f2 (n.f2.length : Int) (i : Int) n.f0 n.f1.f0 n.f1.f1 n.f2 (F : Int) (T : Int)) R := by
 have hlen := hs.len; have hwn := wd_wds n; intro r
 induction r with
 | nil =>
  intro i cur hd hi hl; have := le_of_nil hd
  obtain rfl : i = n.f2.length := (by omega)
  rw [lastc] at hl; rw [List.take_length, hl]; exact H
 | cons e r ih =>
  intro i cur hd hi hl; have hlt := lt_of_drop hd
  have hy : n.f2[i]? = some e := by
   have := congrArg (fun x : List Nd => x[0]?) hd
   simpa [List.getElem?_drop] using this
  have hym := List.mem_of_getElem? hy; have e1 := wds_take_succ hy; have e2 := wds_split hy; rw [lastc] at hl; refine Ev.shift ?_; simp only [tree_Cover.l1]; rw [rd_at hy]; refine Ev.pos (by omega) (Ev.pos (by omega) (Ev.pos (by omega) (Ev.bind (width_ev e (hs.kid hym).1 (hs.kid hym).2) ?_))); rw [w64 (n := ((a + wds (n.f2.take i) : Nat) : Int) + (wd e : Int)) (by omega) (by omega), w64 (n := (i : Int) + 1) (by omega) (by omega)]
  have next : ∀ c : Option (Nat × Nat), lastc F T r (a + wds (n.f2.take i) + wd e) (i + 1) c = fin → Ev (fun k => tree_Cover.l1 k acc (nxt c) (bgn c) (((a + wds (n.f2.take i) : Nat) : Int) + (wd e : Int)) n.f2 (n.f2.length : Int) ((i : Int) + 1) n.f0 n.f1.f0 n.f1.f1 n.f2 (F : Int) (T : Int)) R := by
   intro c hc; have := ih (i + 1) c (drop_next hd) (by omega) (by rw [e1, ← Nat.add_assoc]; exact hc); rw [e1, ← Nat.add_assoc] at this
   exact_mod_cast this
  by_cases c1 : a + wds (n.f2.take i) ≤ F
  ·refine Ev.pos (by omega) ?_; by_cases c2 : T ≤ a + wds (n.f2.take i) + wd e
   ·rw [if_pos ⟨c1, c2⟩] at hl; exact Ev.pos (by omega) (next _ hl)
   ·rw [if_neg (fun h => c2 h.2)] at hl; exact Ev.neg (by omega) (next _ hl)
  ·rw [if_neg (fun h => c1 h.1)] at hl; exact Ev.neg (by omega) (next _ hl)
theorem rcover_loop (n : Nd) (hs : sm n) (hf : isF n) (F T a : Nat) (ha : a + wd n ≤ 1000000000) (acc : List Int) {R : List Int} (fin : Option (Nat × Nat)) (H : Ev (fun k => marginaliaref05_Cover.l1 k acc (nxt fin) ((a + wds n.f2 : Nat) : Int) (bgn fin) (n.f2.length : Int) n.f0 n.f1.f0 n.f1.f1 n.f2 (F : Int) (T : Int)) R) : ∀ (r : List Nd) (i : Nat) (cur : Option (Nat × Nat)), n.f2.drop i = r → i ≤ n.f2.length → lastc F T r (a + wds (n.f2.take i)) i cur = fin →
  Ev (fun k => marginaliaref05_Cover.l1 k acc (nxt cur) ((a + wds (n.f2.take i) : Nat) : Int) (bgn cur) (i : Int) n.f0 n.f1.f0 n.f1.f1 n.f2 (F : Int) (T : Int)) R := by
 have hlen := hs.len; have hwn := wd_wds n; intro r
 induction r with
 | nil =>
  intro i cur hd hi hl; have := le_of_nil hd
  obtain rfl : i = n.f2.length := (by omega)
  rw [lastc] at hl; rw [List.take_length, hl]; exact H
 | cons e r ih =>
  intro i cur hd hi hl; have hlt := lt_of_drop hd
  have hy : n.f2[i]? = some e := by
   have := congrArg (fun x : List Nd => x[0]?) hd
   simpa [List.getElem?_drop] using this
  have hym := List.mem_of_getElem? hy; have e1 := wds_take_succ hy; have e2 := wds_split hy; rw [lastc] at hl; refine Ev.shift ?_; simp only [marginaliaref05_Cover.l1]; rw [rd_at hy]; refine Ev.pos (by omega) (Ev.pos (by omega) (Ev.bind (rwidth_ev e (hs.kid hym) (hf.kid hym)) ?_)); rw [w64 (n := ((a + wds (n.f2.take i) : Nat) : Int) + (wd e : Int)) (by omega) (by omega), w64 (n := (i : Int) + 1) (by omega) (by omega)]
  have next : ∀ c : Option (Nat × Nat), lastc F T r (a + wds (n.f2.take i) + wd e) (i + 1) c = fin → Ev (fun k => marginaliaref05_Cover.l1 k acc (nxt c) (((a + wds (n.f2.take i) : Nat) : Int) + (wd e : Int)) (bgn c) ((i : Int) + 1) n.f0 n.f1.f0 n.f1.f1 n.f2 (F : Int) (T : Int)) R := by
   intro c hc; have := ih (i + 1) c (drop_next hd) (by omega) (by rw [e1, ← Nat.add_assoc]; exact hc); rw [e1, ← Nat.add_assoc] at this
   exact_mod_cast this
  by_cases c1 : a + wds (n.f2.take i) ≤ F
  ·refine Ev.pos (by omega) ?_; by_cases c2 : T ≤ a + wds (n.f2.take i) + wd e
   ·rw [if_pos ⟨c1, c2⟩] at hl; exact Ev.pos (by omega) (next _ hl)
   ·rw [if_neg (fun h => c2 h.2)] at hl; exact Ev.neg (by omega) (next _ hl)
  ·rw [if_neg (fun h => c1 h.1)] at hl; exact Ev.neg (by omega) (next _ hl)
theorem cover_both (F T : Nat) : ∀ n : Nd, sm n → isF n → ∀ a, a ≤ F → T ≤ a + wd n → a + wd n ≤ 1000000000 → ∃ (p : List Int) (x : Nd) (o : Nat), atp p n = some (x, o) ∧ a + o ≤ F ∧ T ≤ a + o + wd x ∧ (∀ j y, ¬ holds F T (a + o) x.f2 j y) ∧ p.length ≤ nd n ∧
  (∀ acc : List Int, acc.length + nd n ≤ 10000000 → Ev (fun k => tree_Cover.l0 k acc (a : Int) n.f0 n.f1.f0 n.f1.f1 n.f2 (F : Int) (T : Int)) (acc ++ p, 0) ∧ Ev (fun k => marginaliaref05_Cover.l0 k acc (a : Int) n.f0 n.f1.f0 n.f1.f1 n.f2 (F : Int) (T : Int)) (acc ++ p)) := by
 refine Nd.ind ?_; intro n ih hs hf a hF hT haw; have hlen := hs.len; have hnn := hs.2; have hspec := lastc_spec F T n.f2 a n.f2 0 none rfl (fun _ _ h => by cases h) (fun _ j x hj => absurd hj (Nat.not_lt_zero _)); have e0 : wds (n.f2.take 0) = 0 := rfl; rw [e0, Nat.add_zero] at hspec; generalize hfin : lastc F T n.f2 a 0 none = fin at hspec
 have run : ∀ acc : List Int, ∀ R : List Int × Int, Ev (fun k => tree_Cover.l1 k acc (nxt fin) (bgn fin) ((a + wds n.f2 : Nat) : Int) n.f2 (n.f2.length : Int) (n.f2.length : Int) n.f0 n.f1.f0 n.f1.f1 n.f2 (F : Int) (T : Int)) R → Ev (fun k => tree_Cover.l0 k acc (a : Int) n.f0 n.f1.f0 n.f1.f1 n.f2 (F : Int) (T : Int)) R := by
  intro acc R H; refine Ev.shift ?_; simp only [tree_Cover.l0]; have := cover_loop n hs F T a haw acc fin H n.f2 0 none rfl (Nat.zero_le _) (by rw [e0]; exact hfin); rw [e0, Nat.add_zero] at this; exact this
 have rrun : ∀ acc : List Int, ∀ R : List Int, Ev (fun k => marginaliaref05_Cover.l1 k acc (nxt fin) ((a + wds n.f2 : Nat) : Int) (bgn fin) (n.f2.length : Int) n.f0 n.f1.f0 n.f1.f1 n.f2 (F : Int) (T : Int)) R → Ev (fun k => marginaliaref05_Cover.l0 k acc (a : Int) n.f0 n.f1.f0 n.f1.f1 n.f2 (F : Int) (T : Int)) R := by
  intro acc R H; refine Ev.shift ?_; simp only [marginaliaref05_Cover.l0]; have := rcover_loop n hs hf F T a haw acc fin H n.f2 0 none rfl (Nat.zero_le _) (by rw [e0]; exact hfin); rw [e0, Nat.add_zero] at this; exact this
 cases fin with
 | none =>
  refine ⟨[], n, 0, rfl, by omega, by omega, by rw [Nat.add_zero]; exact hspec.2 rfl, Nat.zero_le _, fun acc _ => ⟨run acc _ (Ev.shift ?_), rrun acc _ (Ev.shift ?_)⟩⟩
  ·simp only [tree_Cover.l1, nxt, bgn]; rw [List.append_nil]; exact Ev.neg (by omega) (Ev.pos (by decide) (Ev.now _))
  ·simp only [marginaliaref05_Cover.l1, nxt, bgn]; rw [List.append_nil]; exact Ev.neg (by omega) (Ev.pos (by decide) (Ev.now _))
 | some jb =>
  obtain ⟨j, b⟩ := jb; obtain ⟨x, hh, rfl⟩ := hspec.1 j b rfl; obtain ⟨g1, g2, g3⟩ := hh; have hxm := List.mem_of_getElem? g1; have e2 := wds_split g1; have hwn := wd_wds n
  have hj : j < n.f2.length := by
   rcases Nat.lt_or_ge j n.f2.length with h | h
   ·exact h
   ·rw [List.getElem?_eq_none h] at g1; cases g1
  have hn2 : nd x + 1 ≤ nd n := by
   have := sum_mem (f := nd) hxm; rw [nd_eq n]
   omega
  obtain ⟨p, y, o, q1, q2, q3, q4, q5, q6⟩ := ih x hxm (hs.kid hxm) (hf.kid hxm) (a + wds (n.f2.take j)) g2 g3 (by omega); refine ⟨(j : Int) :: p, y, wds (n.f2.take j) + o, ?_, by omega, by omega, by rw [← Nat.add_assoc]; exact q4, by rw [List.length_cons]; omega, fun acc ha => ?_⟩
  ·rw [atp, if_pos (by omega), Int.toNat_natCast, g1, Option.bind_some, q1]; rfl
  ·obtain ⟨r1, r2⟩ := q6 (acc ++ [(j : Int)]) (by rw [List.length_append]; simp only [List.length_cons, List.length_nil]; omega); rw [List.append_assoc] at r1 r2; refine ⟨run acc _ (Ev.shift ?_), rrun acc _ (Ev.shift ?_)⟩
   ·simp only [tree_Cover.l1, nxt, bgn]; rw [rd_at g1]; exact Ev.neg (by omega) (Ev.neg (by omega) (Ev.pos (by omega) (Ev.pos (by omega) (Ev.pos (by omega) r1))))
   ·simp only [marginaliaref05_Cover.l1, nxt, bgn]; rw [rd_at g1]; exact Ev.neg (by omega) (Ev.neg (by omega) (Ev.pos (by omega) (Ev.pos (by omega) (Ev.pos (by omega) r2))))
theorem Cover_ev (n : Nd) (hs : sm n) (hf : fmd n = true) (F T : Nat) (hFT : F ≤ T) (hT : T ≤ wd n) : ∃ (p : List Int) (x : Nd) (o : Nat), atp p n = some (x, o) ∧ o ≤ F ∧ T ≤ o + wd x ∧ (∀ j y, ¬ holds F T o x.f2 j y) ∧ p.length ≤ 1000000 ∧
  Ev (fun k => tree_Cover.f k n.f0 n.f1.f0 n.f1.f1 n.f2 (F : Int) (T : Int)) (p, 0) ∧ Ev (fun k => marginaliaref05_Cover.f k n.f0 n.f1.f0 n.f1.f1 n.f2 (F : Int) (T : Int)) p := by
 have hn := hs.2; have hwn := hs.1; obtain ⟨p, x, o, q1, q2, q3, q4, q5, q6⟩ := cover_both F T n hs (isF.of_fmd hf) 0 (Nat.zero_le _) (by omega) (by omega); obtain ⟨r1, r2⟩ := q6 [] (by simp; omega); rw [Nat.zero_add] at q2 q3 q4; refine ⟨p, x, o, q1, q2, q3, q4, by omega, ?_, ?_⟩
 ·unfold tree_Cover.f; exact Ev.bind (IsFormed_ev n hs) (Ev.pos hf (Ev.neg (by omega) (Ev.neg (by omega) (Ev.bind (width_ev n hs.1 hs.2) (Ev.neg (by omega) r1)))))
 ·unfold marginaliaref05_Cover.f; exact r2
end Go.Proofs.Ytnafnieocpkkhaa.P

namespace Go.Proofs.Ytnafnieocpkkhaa.P
open Go.RowKit Go.Proofs.YtnafnieocpkkhaaW.PrintWords Go.Proofs.YtnafnieocpkkhaaW.PrintLast Go.Proofs.YtnafnieocpkkhaaW.PrintMore
attribute [local go_sem] max2_int min2_int max_two min_two max_three min_three max_four min_four
set_option linter.unusedVariables false
set_option linter.unusedSimpArgs false

def tree_All.kids (g : S26 → List Int → List (List Int) → Option (List (List Int))) : List (S26) → Nat → List Int → List (List Int) → Option (List (List Int))
 | [], _, _, out => some out
 | x :: r, i, here, out => (g x (here ++ [(i : Int)]) out).bind fun o => tree_All.kids g r (i + 1) here o
def tree_All.go (kind : Int) : Nat → S26 → List Int → List (List Int) → Option (List (List Int))
 | 0, _, _, _ => none
 | m + 1, n, here, out => if here.length < 1000000 then (if out.length < 1000000 then tree_All.kids (tree_All.go kind m) n.f2 0 here (if n.f0 = kind then out ++ [here] else out) else none) else none
def tree_All.f (k : Nat) (a0_0 : Int) (a0_1 : Int) (a0_2 : ByteArray) (l0_3 : List (S26)) (a1 : Int) : Option (List (List Int) × Int) :=
 (tree_IsFormed.f k a0_0 a0_1 a0_2 l0_3).bind fun b => if b = true then (tree_All.go a1 k ⟨a0_0, ⟨a0_1, a0_2⟩, l0_3⟩ [] []).bind fun l => some (l, 0) else some ([], 4)
abbrev tree_All.RI (w : World) (base : Nat) (v : Value) (xs : List Int) : Prop := Kd.R (Kd.int .i64) 3 w base (fun _ => True) v xs
abbrev tree_All.RR (w : World) (base : Nat) (v : Value) (xs : List (List Int)) : Prop := Kd.R (Kd.slice 3 (Kd.int .i64)) 30 w base (fun _ => True) v xs
/-- What may have changed: block g, rows of []int's, and what is new. -/
def tree_All.Fr (g : Nat) (w w' : World) : Prop := w.heap.size ≤ w'.heap.size ∧ ∀ k, k < w.heap.size → k ≠ g → (∀ cs, w.heap[k]? ≠ some (.cells cs 30 (0, 0))) → w'.heap[k]? = w.heap[k]?
theorem tree_All.Fr.refl (g : Nat) (w : World) : tree_All.Fr g w w := ⟨Nat.le_refl _, fun _ _ _ _ => rfl⟩
theorem tree_All.Fr.trans {g : Nat} {w w1 w2 : World} (h : tree_All.Fr g w w1) (h2 : tree_All.Fr g w1 w2) : tree_All.Fr g w w2 :=
 ⟨Nat.le_trans h.1 h2.1, fun k hk hg ht => by
  have e := h.2 k hk hg ht
  exact (h2.2 k (Nat.lt_of_lt_of_le hk h.1) hg (fun cs hc => ht cs (by rw [← e]; exact hc))).trans e⟩
theorem tree_All.Fr.below {g : Nat} {w w1 : World} (h : Below w.heap.size w w1) : tree_All.Fr g w w1 := ⟨h.size, fun k hk _ _ => h.block k hk⟩
theorem tree_All.Fr.blk {g b : Nat} {w w1 : World} {cs : Array Value} {t : Nat} {fz : Nat × Nat} (h : tree_All.Fr g w w1) (hb : w.heap[b]? = some (.cells cs t fz)) (ht : t ≠ 30) (hg : b ≠ g) : w1.heap[b]? = some (.cells cs t fz) :=
 (h.2 b (blk_lt hb) hg (fun cs' hc => by rw [hb] at hc; injection hc with hc; injection hc with _ h2; exact ht h2)).trans hb
theorem tree_All.Fr.grown {g : Nat} {w w1 : World} {base : Nat} {v : Value} {xs : List (List Int)} (hr : tree_All.RR w base v xs) (h : w.grownBy w1 v.ownBlock) : tree_All.Fr g w w1 :=
 ⟨h.size, fun k hk _ ht => h.block k hk (fun e => by
  obtain ⟨inner, ho⟩ := Kd.R_own hr; obtain ⟨cells, hc⟩ := own_typed ho k e.symm
  exact ht cells hc)⟩
theorem tree_All.Fr.set {g : Nat} {w w1 : World} (h : tree_All.Fr g w w1) (j : Nat) (u : Value) : tree_All.Fr g w (w1.setCell ⟨g, j, none⟩ u) :=
 ⟨by simpa [World.setCell] using h.1, fun k hk hg ht => (Below.heap_setCell w1 ⟨g, j, none⟩ u k hg).trans (h.2 k hk hg ht)⟩
/-- A row of ints stays. -/
theorem tree_All.RI.fr {g base : Nat} {w w1 : World} {v : Value} {xs : List Int} {cs : Array Value} (hr : tree_All.RI w base v xs) (h : tree_All.Fr g w w1) (hg : w.heap[g]? = some (.cells cs 35 (0, 0))) : tree_All.RI w1 base v xs :=
 Kd.R_mono (Kd.R_step (Kd.R_bound hr) (fun k hk hlt => by
  obtain ⟨_, _, _, q, hq, cells, hc⟩ := hk; have hq3 : q = 3 := List.mem_singleton.1 hq; subst hq3; refine h.2 k hlt (fun e => ?_) (fun cs' hc' => ?_)
  ·subst e; rw [hc] at hg; injection hg with hg; injection hg with _ h2; exact absurd h2 (by decide)
  ·rw [hc] at hc'; injection hc' with hc'; injection hc' with _ h2; exact absurd h2 (by decide))) (fun _ hk => hk.1)
theorem tree_All.infoInt : (Try.prog.info? 3).map (fun i => (i.zero, i.size, i.bytes)) = some (some (.int .i64 0), 1, 8) := by kernel_rfl
theorem tree_All.infoRow : (Try.prog.info? 30).map (fun i => (i.zero, i.size, i.bytes)) = some (some (.slice none 0 0), 1, 24) := by kernel_rfl
/-- slices.Clone of a row of ints of the call's own. -/
theorem tree_All.clone (w : World) (base : Nat) (v : Value) (xs : List Int) (hl : xs.length ≤ 1000000) (h : tree_All.RI w base v xs) :
  Calls Try.prog 57 #[v] w fun e w' => ∃ v', e = .returned v' ∧ tree_All.RI w' w.heap.size v' xs ∧ Below w.heap.size w w' := by
 obtain ⟨A, c, rfl, hc, hC⟩ := Kd.R_reads h
 cases A with
 | none =>
  have h0 : xs = [] := by
   rcases Nat.eq_zero_or_pos xs.length with h0 | h0
   ·exact List.length_eq_zero_iff.mp h0
   ·obtain ⟨ad, e, _⟩ := Kd.at_int hC 0 (by omega) (by omega)
    cases e
  subst h0; refine (Try.slices_Clone_int_nil _ _ w).mono ?_; rintro e w' ⟨rfl, rfl⟩; exact ⟨_, rfl, Kd.R_nil _ _ _ _ _, Below.refl _ _⟩
 | some ad =>
  by_cases h0 : xs.length = 0
  ·have h1 := List.length_eq_zero_iff.mp h0; subst h1; refine (Try.slices_Clone_int_zero ad c w).mono ?_; rintro e w' ⟨v', rfl, ho, _, hb⟩; exact ⟨_, rfl, Kd.R_of_own (by simpa [encs] using ho) (fun _ _ => trivial), hb⟩
  ·obtain ⟨g, rfl⟩ := Kd.R_head h; refine (Try.slices_Clone_int g 0 xs.length c xs w (Nat.le_refl _) (by omega) (fun j hj => ?_)).mono ?_
   ·obtain ⟨ad', e, hx⟩ := Kd.at_int hC (j : Int) (by omega) (by omega)
    cases e
    rw [Int.toNat_natCast] at hx; rw [show (⟨g, 0, none⟩ : Addr).add j = ⟨g, j, none⟩ by unfold Addr.add; simp; try omega] at hx
    simpa [rd] using hx
   ·rintro e w' ⟨v', rfl, ho, _, hb⟩; rw [List.take_length] at ho; exact ⟨_, rfl, Kd.R_of_own (by simpa [encs] using ho) (fun _ _ => trivial), hb⟩
/-- append to a row of ints that is full. -/
theorem tree_All.grow_step {ops : Array Oper} {o : Oper} {a : Act} {K : Act → World → Prop} {Q : Exit → Act → World → Prop} {E : Prop} {W : World} {base : Nat} (hgd : o.guard = none) (s x : Operand) (hop : o.op = .call { callee := .builtin .append, args := #[s, x], argTypes := #[30, 30] })
  (A : Option Addr) (c : Nat) (xs : List Int) (i : Int) (hR : tree_All.RI W base (.slice A xs.length c) xs) (hs : a.eval s = .slice A xs.length xs.length) (bn : Nat) (hbn : bn = W.heap.size) (hx : a.eval x = .slice (some ⟨bn, 0, none⟩) 1 1) (hl : xs.length ≤ 1000000) (hbase : base ≤ W.heap.size)
  (hK : ∀ v1 w1, tree_All.RI w1 base v1 (xs ++ [i]) → Below W.heap.size W w1 → K (a.put o.dst v1) w1) :
  if Region.wanted o (yielded ops a.tmps) = true then Oper.wp Try.prog o a (W.alloc (.cells #[.int .i64 i] 3)) K Q else E := by
 subst hbn; obtain ⟨i0, hi, hz0, hz1, hz2⟩ := info_parts tree_All.infoInt; obtain ⟨A', c', e, hc, hC⟩ := Kd.R_reads hR; injection e with e1 _ e3; subst e1 e3; have hB := below_alloc (Below.refl W.heap.size W) (.cells #[.int .i64 i] 3); refine step_append_grows (w := W.alloc (.cells #[.int .i64 i] 3)) hgd s x 30 hop 3 i0 (.int .i64 0) 1 8 Try.underlying30 hi hz0 hz1 hz2 rfl (by decide) A xs.length xs.length (xs.map (Value.int .i64)) hs (fun e => ?_) (by simp) (fun b e j u hj => ?_) ⟨W.heap.size, 0, none⟩ 1 1 [.int .i64 i] hx rfl (fun j u hj => ?_) (fun u hu => ?_) (by omega) (by unfold maxLen; omega) (by omega) (fun v1 w1 ho hg => hK v1 w1 ?_ ?_)
 ·subst e
  rcases Nat.eq_zero_or_pos xs.length with h0 | h0
  ·exact ⟨h0, h0⟩
  ·obtain ⟨ad, e, _⟩ := Kd.at_int hC 0 (by omega) (by omega)
   cases e
 ·subst e
  have hj' : j < xs.length := by
   have := (List.getElem?_eq_some_iff.1 hj).1
   simpa using this
  obtain ⟨ad', e, hx2⟩ := Kd.at_int hC (j : Int) (by omega) (by omega)
  cases e
  rw [Int.toNat_natCast] at hx2; rw [List.getElem?_map, List.getElem?_eq_getElem hj'] at hj; simp only [Option.map_some, Option.some.injEq] at hj; subst hj; refine (hB.cell (World.block_lt_of_cell? W _ hx2)).trans (hx2.trans ?_)
  simp [rd, hj']
 ·match j, hj with
  | 0, hj =>
   simp only [List.getElem?_cons_zero, Option.some.injEq] at hj; subst hj; rw [show (⟨W.heap.size, 0, none⟩ : Addr).add 0 = ⟨W.heap.size, 0, none⟩ from rfl, Lib.cell_of_heap (blk_new _ _)]; rfl
 ·rw [List.mem_singleton.1 hu]; rfl
 ·exact Kd.R_of_own (own_weaken (by simpa [encs] using ho) (Nat.le_trans hbase hB.size)) (fun _ _ => trivial)
 ·refine hB.trans ?_; exact ⟨hg.os, hg.tape, hg.output, hg.size, fun k hk => hg.block k (Nat.lt_of_lt_of_le hk hB.size) (by simp)⟩
/-- What the literal in All does at a Node: the rows in block g grow. -/
def tree_All.Holds (w0 : World) (kind : Int) (g b3 b7 m : Nat) : Prop := ∀ (n : S26) (A : Option Addr) (cc : Nat) (here : List Int) (v2 : Value) (out : List (List Int)) (vo : Value) (r : List (List Int)) (w : World), n.f2.length ≤ cc → Kd.C k26 w0 A n.f2.length n.f2 → tree_All.RI w w0.heap.size v2 here →
 w.heap[g]? = some (.cells #[vo] 35 (0, 0)) → tree_All.RR w w0.heap.size vo out → w.heap[b3]? = some (.cells #[.int .i64 kind] 3 (0, 0)) → w.heap[b7]? = some (.cells #[(.func (.func 56) #[] #[.pointer (some ⟨b3, 0, none⟩), .pointer (some ⟨g, 0, none⟩), .pointer (some ⟨b7, 0, none⟩)])] 88 (0, 0)) → w0.heap.size ≤ g → b3 ≠ g → b7 ≠ g → Below w0.heap.size w0 w → tree_All.go kind m n here out = some r →
 Calls Try.prog 56 #[.agg #[.int .i64 n.f0, .int .i64 n.f1.f0, .string n.f1.f1, .slice A n.f2.length cc], v2, .pointer (some ⟨b3, 0, none⟩), .pointer (some ⟨g, 0, none⟩), .pointer (some ⟨b7, 0, none⟩)] w fun e w' => e = .returned (.tuple #[]) ∧ ∃ vo', w'.heap[g]? = some (.cells #[vo'] 35 (0, 0)) ∧ tree_All.RR w' w0.heap.size vo' r ∧ Below w0.heap.size w0 w' ∧ tree_All.Fr g w w'
set_option maxHeartbeats 16000000 in
set_option maxRecDepth 100000 in
theorem tree_All.walk_ok (w0 : World) (kind : Int) (g b3 b7 : Nat) : ∀ m, tree_All.Holds w0 kind g b3 b7 m := by
 have hu := Try.underlying26; intro m
 induction m with
 | zero =>
  intro n A cc here v2 out vo r w _ _ _ _ _ _ _ _ _ _ _ h
  simp [tree_All.go] at h
 | succ m ih =>
  intro n A cc here v2 out vo r w hcc hC hRI hG hRR h3 h7 hg n3 n7 hB h; rw [tree_All.go] at h; obtain ⟨hlh, h⟩ := Ut.ite_some h; obtain ⟨hlo, h⟩ := Ut.ite_some h; obtain ⟨A2, c2, e2, hc2, _⟩ := Kd.R_reads hRI; subst e2; have HC := Aside0.mk hC; have IH := Aside0.mk ih; have hmax : n.f2.length ≤ 9223372036854775807 := hC.2.1; have hgl := blk_lt hG; have HNG := Aside0.mk (And.intro hg (And.intro n3 n7)); have hA := below_alloc (Below.refl w.heap.size w) (.cells #[.int .i64 n.f0, .int .i64 n.f1.f0, .string n.f1.f1, .slice A n.f2.length cc] 26); have HB1 := Aside0.mk (below_alloc hB (.cells #[.int .i64 n.f0, .int .i64 n.f1.f0, .string n.f1.f1, .slice A n.f2.length cc] 26)); have HF1 := Aside0.mk (tree_All.Fr.below (g := g) hA); have HG1 := Aside0.mk (blk_alloc hG (.cells #[.int .i64 n.f0, .int .i64 n.f1.f0, .string n.f1.f1, .slice A n.f2.length cc] 26)); have HR1 := Aside0.mk (Kd.R_alloc hRR (.cells #[.int .i64 n.f0, .int .i64 n.f1.f0, .string n.f1.f1, .slice A n.f2.length cc] 26)); have HI1 := Aside0.mk (Kd.R_alloc hRI (.cells #[.int .i64 n.f0, .int .i64 n.f1.f0, .string n.f1.f1, .slice A n.f2.length cc] 26)); have H31 := Aside0.mk (blk_alloc h3 (.cells #[.int .i64 n.f0, .int .i64 n.f1.f0, .string n.f1.f1, .slice A n.f2.length cc] 26)); have H71 := Aside0.mk (blk_alloc h7 (.cells #[.int .i64 n.f0, .int .i64 n.f1.f0, .string n.f1.f1, .slice A n.f2.length cc] 26)); have HN1 := Aside0.mk (blk_new w (.cells #[.int .i64 n.f0, .int .i64 n.f1.f0, .string n.f1.f1, .slice A n.f2.length cc] 26)); have hsz := hB.size
  have hng : w.heap.size ≠ g := (by omega)
  have H := Aside0.mk h; clear hC ih hRI hG hRR h3 h7 hB hA n3 n7 h; go_enter Try.func56, Try.ntmps56; have e3 : (w.alloc (.cells #[.int .i64 n.f0, .int .i64 n.f1.f0, .string n.f1.f1, .slice A n.f2.length cc] 26)).cell? ⟨b3, 0, none⟩ = some (.int .i64 kind) := Lib.cell_of_heap H31.out 0
  go_upto_if 12 with fail
  go_cut [] (fun wc => ∃ (o : List (List Int)) (vp : Value), Aside0 (tree_All.kids (tree_All.go kind m) n.f2 0 here o = some r) ∧ Aside0 (wc.heap[w.heap.size]? = some (.cells #[.int .i64 n.f0, .int .i64 n.f1.f0, .string n.f1.f1, .slice A n.f2.length cc] 26 (0, 0))) ∧ Aside0 (wc.heap[g]? = some (.cells #[vp] 35 (0, 0))) ∧ Aside0 (tree_All.RR wc w0.heap.size vp o) ∧ Aside0 (tree_All.RI wc w0.heap.size (.slice A2 here.length c2) here) ∧ Aside0 (wc.heap[b3]? = some (.cells #[.int .i64 kind] 3 (0, 0))) ∧ Aside0 (wc.heap[b7]? = some (.cells #[(.func (.func 56) #[] #[.pointer (some ⟨b3, 0, none⟩), .pointer (some ⟨g, 0, none⟩), .pointer (some ⟨b7, 0, none⟩)])] 88 (0, 0))) ∧ Aside0 (Below w0.heap.size w0 wc) ∧ Aside0 (tree_All.Fr g w wc))
  case first =>
   have h := H.out; by_cases c : n.f0 = kind
   ·rw [if_pos c] at h; have HH := Aside0.mk h; have cb : (n.f0 == kind) = true := beq_iff_eq.mpr c; clear c h H; have eg : (w.alloc (.cells #[.int .i64 n.f0, .int .i64 n.f1.f0, .string n.f1.f1, .slice A n.f2.length cc] 26)).cell? ⟨g, 0, none⟩ = some vo := Lib.cell_of_heap HG1.out 0; have CL := Aside0.mk (tree_All.clone (w.alloc (.cells #[.int .i64 n.f0, .int .i64 n.f1.f0, .string n.f1.f1, .slice A n.f2.length cc] 26)).drew w0.heap.size (.slice A2 here.length c2) here (by omega) (Kd.R_drew HI1.out))
    have HO3 : ∀ w3, Below (w.alloc (.cells #[.int .i64 n.f0, .int .i64 n.f1.f0, .string n.f1.f1, .slice A n.f2.length cc] 26)).drew.heap.size (w.alloc (.cells #[.int .i64 n.f0, .int .i64 n.f1.f0, .string n.f1.f1, .slice A n.f2.length cc] 26)).drew w3 → tree_All.RR w3 w0.heap.size vo out := fun w3 hb => Kd.R_below (Kd.R_drew HR1.out) hb
    have HB3 : ∀ w3, Below (w.alloc (.cells #[.int .i64 n.f0, .int .i64 n.f1.f0, .string n.f1.f1, .slice A n.f2.length cc] 26)).drew.heap.size (w.alloc (.cells #[.int .i64 n.f0, .int .i64 n.f1.f0, .string n.f1.f1, .slice A n.f2.length cc] 26)).drew w3 → Below w0.heap.size w0 w3 := fun w3 hb => (below_drew1 HB1.out).trans (hb.mono (by have := HB1.out.size; have : (w.alloc (.cells #[.int .i64 n.f0, .int .i64 n.f1.f0, .string n.f1.f1, .slice A n.f2.length cc] 26)).drew.heap.size = (w.alloc (.cells #[.int .i64 n.f0, .int .i64 n.f1.f0, .string n.f1.f1, .slice A n.f2.length cc] 26)).heap.size := rfl; omega))
    have HG3 : ∀ w3, Below (w.alloc (.cells #[.int .i64 n.f0, .int .i64 n.f1.f0, .string n.f1.f1, .slice A n.f2.length cc] 26)).drew.heap.size (w.alloc (.cells #[.int .i64 n.f0, .int .i64 n.f1.f0, .string n.f1.f1, .slice A n.f2.length cc] 26)).drew w3 → w3.heap[g]? = some (.cells #[vo] 35 (0, 0)) := fun w3 hb => blk_below (blk_drew HG1.out) hb
    have HP3 : ∀ v3 w3, tree_All.RI w3 (w.alloc (.cells #[.int .i64 n.f0, .int .i64 n.f1.f0, .string n.f1.f1, .slice A n.f2.length cc] 26)).drew.heap.size v3 here → Kd.R (Kd.int .i64) 3 w3 w0.heap.size (fun k => some k ≠ vo.ownBlock) v3 here := fun v3 w3 hr => Kd.R_mono (Kd.R_lower (Kd.R_newR hr (Kd.R_drew HR1.out)) (by have := HB1.out.size; have : (w.alloc (.cells #[.int .i64 n.f0, .int .i64 n.f1.f0, .string n.f1.f1, .slice A n.f2.length cc] 26)).drew.heap.size = (w.alloc (.cells #[.int .i64 n.f0, .int .i64 n.f1.f0, .string n.f1.f1, .slice A n.f2.length cc] 26)).heap.size := rfl; omega)) (fun _ hk => hk.2)
    go_wp2_with fail
    go_region_law (first | (go_simp; go_at_call 57; refine CL.out.mono ?_; rintro e w3 ⟨v3, rfl, hr3, hb3⟩; obtain ⟨A3, c3, hv3, _, _⟩ := Kd.R_reads hr3; subst hv3; have hcg : w3.cell? ⟨g, 0, none⟩ = some vo := Lib.cell_of_heap (HG3 w3 hb3) 0; have hcg2 : (w3.alloc (.cells #[.slice A3 here.length c3] 30)).cell? ⟨g, 0, none⟩ = some vo := Lib.cell_of_heap (blk_alloc (HG3 w3 hb3) _) 0) | (refine Kd.R_append_step (Kd.slice 3 (Kd.int .i64)) w0.heap.size (w0 := w0) (by rfl) (.tmp 13) (.tmp 16) 35 30 (.slice none 0 0) 24 rfl Try.underlying35 tree_All.infoRow rfl (by decide) (by omega) vo out here [.slice A3 here.length c3] (fun _ => True) (fun k => some k ≠ vo.ownBlock) rfl rfl ⟨_, rfl, HP3 _ w3 hr3⟩ (fun k hk => ⟨trivial, hk⟩) (fun _ _ => trivial) (HO3 w3 hb3) (HB3 w3 hb3) (HB3 w3 hb3).size (by omega) ?_; intro v4 w4 hr4 hb4 hg4 hat4; obtain ⟨A4, c4, hv4, _, _⟩ := Kd.R_reads hr4; obtain ⟨n4, hn4⟩ : ∃ n, Aside0 (n = (out ++ [here]).length) := ⟨_, ⟨rfl⟩⟩; rw [← hn4.out] at hv4; subst hv4; have hst := blk_grown (HG3 w3 hb3) hg4 (Kd.R_ne (HO3 w3 hb3) (HG3 w3 hb3) (by decide)); have hct : w4.cell? ⟨g, 0, none⟩ = some vo := Lib.cell_of_heap hst 0; have hft := Lib.frozen_of_heap hst 0))
    all_goals
     have HG5 := Aside0.mk (blk_put (cs' := #[.slice A4 n4 c4]) hst 0 (.slice A4 n4 c4) rfl); have HO5 := Aside0.mk (Kd.R_set hr4 hst (by intro q hq e; subst e; revert hq; decide) 0 (.slice A4 n4 c4)); have HB5 := Aside0.mk (hb4.setCell (p := ⟨g, 0, none⟩) HNG.out.1 (.slice A4 n4 c4)); have HF51 := Aside0.mk (tree_All.Fr.set (tree_All.Fr.trans (tree_All.Fr.below (g := g) (show Below (w.alloc (.cells #[.int .i64 n.f0, .int .i64 n.f1.f0, .string n.f1.f1, .slice A n.f2.length cc] 26)).heap.size (w.alloc (.cells #[.int .i64 n.f0, .int .i64 n.f1.f0, .string n.f1.f1, .slice A n.f2.length cc] 26)) w3 from (below_drew1 (Below.refl _ _)).trans hb3)) (tree_All.Fr.grown (HO3 w3 hb3) hg4)) 0 (.slice A4 n4 c4)); have HF5 := Aside0.mk (tree_All.Fr.trans HF1.out HF51.out); have HI5 := Aside0.mk (tree_All.RI.fr HI1.out HF51.out HG1.out); have H35 := Aside0.mk (tree_All.Fr.blk HF51.out H31.out (by decide) HNG.out.2.1); have H75 := Aside0.mk (tree_All.Fr.blk HF51.out H71.out (by decide) HNG.out.2.2); have HN5 := Aside0.mk (tree_All.Fr.blk HF51.out HN1.out (by decide) hng)
     (try go_wp2_with fail)
     go_meet
     case rel => exact ⟨_, _, HH, HN5, HG5, HO5, HI5, H35, H75, HB5, HF5⟩
   ·rw [if_neg c] at h; have HH := Aside0.mk h; have cb : (n.f0 == kind) = false := beq_eq_false_iff_ne.mpr c; clear c h H; go_wp2_with fail
    go_meet
    case rel => exact ⟨_, _, HH, HN1, HG1, HR1, HI1, H31, H71, HB1, HF1⟩
  case rest =>
   clear HB1 HF1 HG1 HR1 HI1 H31 H71 HN1 H e3; obtain ⟨o0, vp0, HH, HN, HG, HR, HI, H3, H7, HB, HF⟩ := hcut; have z5 : wc.cell? ⟨w.heap.size, 3, none⟩ = some (.slice A n.f2.length cc) := Lib.cell_of_heap HN.out 3; go_wp2_with fail
   go_loopg [21] n.f2.length (fun kq v21 w' => ∃ (i : Nat) (o : List (List Int)) (vp : Value), v21 = .int .i64 (i : Int) ∧ Aside0 (i + kq = n.f2.length) ∧ Aside0 (tree_All.kids (tree_All.go kind m) (n.f2.drop i) i here o = some r) ∧ Aside0 (w'.heap[g]? = some (.cells #[vp] 35 (0, 0))) ∧ Aside0 (tree_All.RR w' w0.heap.size vp o) ∧ Aside0 (tree_All.RI w' w0.heap.size (.slice A2 here.length c2) here) ∧ Aside0 (w'.heap[b3]? = some (.cells #[.int .i64 kind] 3 (0, 0))) ∧ Aside0 (w'.heap[b7]? = some (.cells #[(.func (.func 56) #[] #[.pointer (some ⟨b3, 0, none⟩), .pointer (some ⟨g, 0, none⟩), .pointer (some ⟨b7, 0, none⟩)])] 88 (0, 0))) ∧ Aside0 (Below w0.heap.size w0 w') ∧ Aside0 (tree_All.Fr g w w'))
   case atStart => exact ⟨0, _, _, rfl, ⟨by omega⟩, HH, HG, HR, HI, H3, H7, HB, HF⟩
   case round =>
    clear HH HN HG HR HI H3 H7 HB HF z5; obtain ⟨i, o, vp, rfl, HK, HH, HG, HR, HI, H3, H7, HB, HF⟩ := hrel; by_cases hlt : i < n.f2.length
    ·have hd1 : decide ((i : Int) < (n.f2.length : Int)) = true := decide_eq_true (by omega); have H := HH.out; rw [List.drop_eq_getElem_cons hlt] at H; simp only [tree_All.kids] at H; obtain ⟨o', ho', Hn⟩ := Option.bind_eq_some_iff.mp H; clear H HH
     have hrd : rd_T26 n.f2 (i : Int) = n.f2[i] := (by simp [rd_T26, hlt])
     obtain ⟨ad, A3, c3, e, hx0, hx1, hx2, hx3, hl3, hC3⟩ := at_T26 HC.out (i : Int) (by omega) (by omega); rw [hrd] at hx0 hx1 hx2 hx3 hl3 hC3; rw [Int.toNat_natCast] at hx0 hx1 hx2 hx3; subst e; replace hx0 := (HB.out.cell (World.block_lt_of_cell? w0 _ hx0)).trans hx0; replace hx1 := (HB.out.cell (World.block_lt_of_cell? w0 _ hx1)).trans hx1; replace hx2 := (HB.out.cell (World.block_lt_of_cell? w0 _ hx2)).trans hx2; replace hx3 := (HB.out.cell (World.block_lt_of_cell? w0 _ hx3)).trans hx3; clear hrd; generalize n.f2[i] = x at *; have HO' := Aside0.mk ho'; have HH2 := Aside0.mk Hn; have HC3 := Aside0.mk (And.intro hC3 hl3); clear ho' Hn hC3 hl3
     cases gk with
     | zero => exact absurd hlt (by have := HK.out; omega)
     | succ kq' =>
     go_upto_region 6 with fail
     clear hx0 hx1 hx2 hx3 hd1
     have HW2 : Aside0 (Below wr.heap.size wr (wr.alloc (.cells #[.int .i64 x.f0, .int .i64 x.f1.f0, .string x.f1.f1, .slice A3 x.f2.length c3] 26))) := ⟨below_alloc (Below.refl _ _) _⟩
     have HX2 := Aside0.mk (blk_new wr (.cells #[.int .i64 x.f0, .int .i64 x.f1.f0, .string x.f1.f1, .slice A3 x.f2.length c3] 26))
     have HS2 : Aside0 ((wr.alloc (.cells #[.int .i64 x.f0, .int .i64 x.f1.f0, .string x.f1.f1, .slice A3 x.f2.length c3] 26)).heap.size = wr.heap.size + 1) := ⟨by simp⟩
     have HI2 := Aside0.mk (Kd.R_alloc HI.out (.cells #[.int .i64 x.f0, .int .i64 x.f1.f0, .string x.f1.f1, .slice A3 x.f2.length c3] 26)); generalize wr.alloc (.cells #[.int .i64 x.f0, .int .i64 x.f1.f0, .string x.f1.f1, .slice A3 x.f2.length c3] 26) = W2 at *; have f7 : W2.cell? ⟨b7, 0, none⟩ = some (.func (.func 56) #[] #[.pointer (some ⟨b3, 0, none⟩), .pointer (some ⟨g, 0, none⟩), .pointer (some ⟨b7, 0, none⟩)]) := Lib.cell_of_heap (blk_below H7.out HW2.out) 0; have f7a : (W2.alloc (.cells #[.int .i64 (i : Int)] 3)).cell? ⟨b7, 0, none⟩ = some (.func (.func 56) #[] #[.pointer (some ⟨b3, 0, none⟩), .pointer (some ⟨g, 0, none⟩), .pointer (some ⟨b7, 0, none⟩)]) := Lib.cell_of_heap (blk_alloc (blk_below H7.out HW2.out) _) 0; have y0 : W2.cell? ⟨wr.heap.size, 0, none⟩ = some (.int .i64 x.f0) := Lib.cell_of_heap HX2.out 0; have u0 : (W2.alloc (.cells #[.int .i64 (i : Int)] 3)).cell? ⟨wr.heap.size, 0, none⟩ = some (.int .i64 x.f0) := Lib.cell_of_heap (blk_alloc HX2.out _) 0; have y1 : W2.cell? ⟨wr.heap.size, 1, none⟩ = some (.int .i64 x.f1.f0) := Lib.cell_of_heap HX2.out 1; have u1 : (W2.alloc (.cells #[.int .i64 (i : Int)] 3)).cell? ⟨wr.heap.size, 1, none⟩ = some (.int .i64 x.f1.f0) := Lib.cell_of_heap (blk_alloc HX2.out _) 1; have y2 : W2.cell? ⟨wr.heap.size, 2, none⟩ = some (.string x.f1.f1) := Lib.cell_of_heap HX2.out 2; have u2 : (W2.alloc (.cells #[.int .i64 (i : Int)] 3)).cell? ⟨wr.heap.size, 2, none⟩ = some (.string x.f1.f1) := Lib.cell_of_heap (blk_alloc HX2.out _) 2; have y3 : W2.cell? ⟨wr.heap.size, 3, none⟩ = some (.slice A3 x.f2.length c3) := Lib.cell_of_heap HX2.out 3; have u3 : (W2.alloc (.cells #[.int .i64 (i : Int)] 3)).cell? ⟨wr.heap.size, 3, none⟩ = some (.slice A3 x.f2.length c3) := Lib.cell_of_heap (blk_alloc HX2.out _) 3; have KB := Aside0.mk (fun w5 (hb : Below W2.drew.heap.size W2.drew w5) => (show Below wr.heap.size wr w5 from HW2.out.trans ((below_drew1 (Below.refl W2.heap.size W2)).trans hb |>.mono HW2.out.size))); have hbs : w0.heap.size ≤ W2.drew.heap.size := Nat.le_trans HB.out.size HW2.out.size; have HLL := Aside0.mk (show here.length ≤ 1000000 by omega); clear hgl hsz hng hlo hlh hcc
     go_region_law (first | (refine tree_All.grow_step (W := W2.drew) (base := w0.heap.size) rfl (.tmp 33) (.tmp 35) rfl A2 c2 here (i : Int) (Kd.R_drew HI2.out) rfl W2.heap.size rfl rfl HLL.out hbs ?_; intro v5 w5 hr5 hb5; have f75 : w5.cell? ⟨b7, 0, none⟩ = some (.func (.func 56) #[] #[.pointer (some ⟨b3, 0, none⟩), .pointer (some ⟨g, 0, none⟩), .pointer (some ⟨b7, 0, none⟩)]) := Lib.cell_of_heap (blk_below H7.out (KB.out w5 hb5)) 0; have s0 : w5.cell? ⟨wr.heap.size, 0, none⟩ = some (.int .i64 x.f0) := Lib.cell_of_heap (blk_below (blk_drew HX2.out) hb5) 0; have s1 : w5.cell? ⟨wr.heap.size, 1, none⟩ = some (.int .i64 x.f1.f0) := Lib.cell_of_heap (blk_below (blk_drew HX2.out) hb5) 1; have s2 : w5.cell? ⟨wr.heap.size, 2, none⟩ = some (.string x.f1.f1) := Lib.cell_of_heap (blk_below (blk_drew HX2.out) hb5) 2; have s3 : w5.cell? ⟨wr.heap.size, 3, none⟩ = some (.slice A3 x.f2.length c3) := Lib.cell_of_heap (blk_below (blk_drew HX2.out) hb5) 3) | (go_simp; go_at_call 56; refine (IH.out x A3 c3 (here ++ [(i : Int)]) v5 o vp o' w5 HC3.out.2 HC3.out.1 hr5 (blk_below HG.out (KB.out w5 hb5)) (Kd.R_below HR.out (KB.out w5 hb5)) (blk_below H3.out (KB.out w5 hb5)) (blk_below H7.out (KB.out w5 hb5)) HNG.out.1 HNG.out.2.1 HNG.out.2.2 (HB.out.trans ((KB.out w5 hb5).mono HB.out.size)) HO'.out).mono ?_; rintro e w6 ⟨rfl, vo6, hg6, hr6, hb6, hf6⟩))
     all_goals
      have HFx := Aside0.mk (tree_All.Fr.trans (tree_All.Fr.below (g := g) (KB.out w5 hb5)) hf6); have HG6 := Aside0.mk hg6; have HR6 := Aside0.mk hr6; have HB6 := Aside0.mk hb6; clear f75 f7 f7a s0 s1 s2 s3 y0 y1 y2 y3 u0 u1 u2 u3 hr5 hb5 hg6 hr6 hb6 hf6 hbs; go_wp2_with fail
      go_roundg kq'
      case measure => omega
      case rel => exact ⟨i + 1, o', vo6, by go_num, ⟨by have := HK.out; omega⟩, HH2, HG6, HR6, ⟨tree_All.RI.fr HI.out HFx.out HG.out⟩, ⟨tree_All.Fr.blk HFx.out H3.out (by decide) HNG.out.2.1⟩, ⟨tree_All.Fr.blk HFx.out H7.out (by decide) HNG.out.2.2⟩, HB6, ⟨tree_All.Fr.trans HF.out HFx.out⟩⟩
    ·have hd1 : decide ((i : Int) < (n.f2.length : Int)) = false := decide_eq_false (by omega); have H := HH.out; rw [List.drop_of_length_le (by have := HK.out; omega)] at H; simp only [tree_All.kids, Option.some.injEq] at H; subst H; go_wp2_with fail; go_end0; exact ⟨rfl, vp, HG.out, HR.out, HB.out, HF.out⟩
theorem tree_All.run_store_func (P : Program) (w : World) (a : Addr) (f : Fn) (cs lb : Array Value) (m : Mode) : (store a (.func f cs lb) m).run P w = stored P w a (.func f cs lb) m := run_store P w a _ m rfl
attribute [local go_sem] tree_All.run_store_func
theorem tree_All.second (w : World) (o1 : Obj) (o2 : Obj) : Aside0 (((w.alloc o1).alloc o2).heap[w.heap.size + 1]? = some o2) := ⟨by
 have := blk_new (w.alloc o1) o2
 simpa using this⟩
set_option maxHeartbeats 8000000 in
set_option maxRecDepth 100000 in
theorem tree_All.calls (k : Nat) (a0_0 : Int) (a0_1 : Int) (a0_2 : ByteArray) (A0_3 : Option Addr) (c0_3 : Nat) (l0_3 : List (S26)) (a1 : Int) (r1 : List (List Int)) (r2 : Int) (w : World) (hr0_3 : Kd.C k26 w A0_3 l0_3.length l0_3) (hc0_3 : l0_3.length ≤ c0_3) (h : tree_All.f k a0_0 a0_1 a0_2 l0_3 a1 = some (r1, r2)) :
  Calls Try.prog 18 #[.agg #[.int .i64 a0_0, .int .i64 a0_1, .string a0_2, .slice A0_3 l0_3.length c0_3], .int .i64 a1] w fun e w' => ∃ v0_ : Value, e = .returned (.tuple #[v0_, .int .i64 r2]) ∧ Kd.R (Kd.slice 3 (Kd.int .i64)) 30 w' w.heap.size (fun _ => True) v0_ r1 ∧ Below w.heap.size w w' := by
 have hu := Try.underlying26; unfold tree_All.f at h; obtain ⟨b, hb, h⟩ := Option.bind_eq_some_iff.mp h; have HF := Aside0.mk hb; have HR := Aside0.mk hr0_3; have hB1 := below_alloc (below_alloc (Below.refl w.heap.size w) (.cells #[.int .i64 a0_0, .int .i64 a0_1, .string a0_2, .slice A0_3 l0_3.length c0_3] 26)) (.cells #[.int .i64 a1] 3); have HB := Aside0.mk hB1; have HN := Aside0.mk (blk_alloc (blk_new w (.cells #[.int .i64 a0_0, .int .i64 a0_1, .string a0_2, .slice A0_3 l0_3.length c0_3] 26)) (.cells #[.int .i64 a1] 3))
 have H3 : Aside0 (((w.alloc (.cells #[.int .i64 a0_0, .int .i64 a0_1, .string a0_2, .slice A0_3 l0_3.length c0_3] 26)).alloc (.cells #[.int .i64 a1] 3)).heap[w.heap.size + 1]? = some (.cells #[.int .i64 a1] 3 (0, 0))) := ⟨by
  have := blk_new (w.alloc (.cells #[.int .i64 a0_0, .int .i64 a0_1, .string a0_2, .slice A0_3 l0_3.length c0_3] 26)) (.cells #[.int .i64 a1] 3)
  simpa using this⟩
 clear hb hr0_3 hB1
 cases b with
 | false =>
  rw [if_neg (by decide)] at h; simp only [Option.some.injEq, Prod.mk.injEq] at h; obtain ⟨rfl, rfl⟩ := h; go_enter Try.func18, Try.ntmps18
  go_wp2_with (go_at_call 30; refine (tree_IsFormed.calls k _ _ _ _ _ _ _ _ (Kd.C_below HR.out HB.out) hc0_3 HF.out).mono ?_; rintro e w1 ⟨rfl, hb⟩; have HB1 := Aside0.mk (token_good.step HB.out hb); clear hb)
  go_ret2
  exact ⟨_, rfl, Kd.R_nil _ _ _ _ _, HB1.out⟩
 | true =>
  rw [if_pos rfl] at h; obtain ⟨l, hl, h⟩ := Option.bind_eq_some_iff.mp h; simp only [Option.some.injEq, Prod.mk.injEq] at h; obtain ⟨rfl, rfl⟩ := h; have HL := Aside0.mk hl; clear hl; go_enter Try.func18, Try.ntmps18
  go_wp2_with (go_at_call 30; refine (tree_IsFormed.calls k _ _ _ _ _ _ _ _ (Kd.C_below HR.out HB.out) hc0_3 HF.out).mono ?_; rintro e w1 ⟨rfl, hb⟩; have HB1 := Aside0.mk (token_good.step HB.out hb); have HN1 := Aside0.mk (blk_below HN.out hb); have H31 := Aside0.mk (blk_below H3.out hb); have z0 : w1.cell? ⟨w.heap.size, 0, none⟩ = some (.int .i64 a0_0) := Lib.cell_of_heap HN1.out 0; have z1 : w1.cell? ⟨w.heap.size, 1, none⟩ = some (.int .i64 a0_1) := Lib.cell_of_heap HN1.out 1; have z2 : w1.cell? ⟨w.heap.size, 2, none⟩ = some (.string a0_2) := Lib.cell_of_heap HN1.out 2; have z3 : w1.cell? ⟨w.heap.size, 3, none⟩ = some (.slice A0_3 l0_3.length c0_3) := Lib.cell_of_heap HN1.out 3; have HFb : Aside0 (((w1.alloc (.cells #[.slice none 0 0] 35)).alloc (.cells #[.nilFunc] 88)).heap[w1.heap.size + 1]? = some (.cells #[.nilFunc] 88 (0, 0))) := tree_All.second w1 _ _; have cF : ((w1.alloc (.cells #[.slice none 0 0] 35)).alloc (.cells #[.nilFunc] 88)).cell? ⟨w1.heap.size + 1, 0, none⟩ = some .nilFunc := Lib.cell_of_heap HFb.out 0; have fF := Lib.frozen_of_heap HFb.out 0; have hsz : w.heap.size + 2 ≤ w1.heap.size := (by have hq := hb.size; simp at hq; omega); have q0 : ((w1.alloc (.cells #[.slice none 0 0] 35)).alloc (.cells #[(.func (.func 56) #[] #[.pointer (some ⟨w.heap.size + 1, 0, none⟩), .pointer (some ⟨w1.heap.size, 0, none⟩), .pointer (some ⟨w1.heap.size + 1, 0, none⟩)])] 88)).cell? ⟨w.heap.size, 0, none⟩ = some (.int .i64 a0_0) := Lib.cell_of_heap (blk_alloc (blk_alloc HN1.out _) _) 0; have q1 : ((w1.alloc (.cells #[.slice none 0 0] 35)).alloc (.cells #[(.func (.func 56) #[] #[.pointer (some ⟨w.heap.size + 1, 0, none⟩), .pointer (some ⟨w1.heap.size, 0, none⟩), .pointer (some ⟨w1.heap.size + 1, 0, none⟩)])] 88)).cell? ⟨w.heap.size, 1, none⟩ = some (.int .i64 a0_1) := Lib.cell_of_heap (blk_alloc (blk_alloc HN1.out _) _) 1; have q2 : ((w1.alloc (.cells #[.slice none 0 0] 35)).alloc (.cells #[(.func (.func 56) #[] #[.pointer (some ⟨w.heap.size + 1, 0, none⟩), .pointer (some ⟨w1.heap.size, 0, none⟩), .pointer (some ⟨w1.heap.size + 1, 0, none⟩)])] 88)).cell? ⟨w.heap.size, 2, none⟩ = some (.string a0_2) := Lib.cell_of_heap (blk_alloc (blk_alloc HN1.out _) _) 2; have q3 : ((w1.alloc (.cells #[.slice none 0 0] 35)).alloc (.cells #[(.func (.func 56) #[] #[.pointer (some ⟨w.heap.size + 1, 0, none⟩), .pointer (some ⟨w1.heap.size, 0, none⟩), .pointer (some ⟨w1.heap.size + 1, 0, none⟩)])] 88)).cell? ⟨w.heap.size, 3, none⟩ = some (.slice A0_3 l0_3.length c0_3) := Lib.cell_of_heap (blk_alloc (blk_alloc HN1.out _) _) 3; have HCall := Aside0.mk (tree_All.walk_ok w a1 w1.heap.size (w.heap.size + 1) (w1.heap.size + 1) k ⟨a0_0, ⟨a0_1, a0_2⟩, l0_3⟩ A0_3 c0_3 [] (.slice none 0 0) [] (.slice none 0 0) l ((w1.alloc (.cells #[.slice none 0 0] 35)).alloc (.cells #[(.func (.func 56) #[] #[.pointer (some ⟨w.heap.size + 1, 0, none⟩), .pointer (some ⟨w1.heap.size, 0, none⟩), .pointer (some ⟨w1.heap.size + 1, 0, none⟩)])] 88)) hc0_3 HR.out (Kd.R_nil _ _ _ _ _) (blk_alloc (blk_new w1 _) _) (Kd.R_nil _ _ _ _ _) (blk_alloc (blk_alloc H31.out _) _) (tree_All.second w1 _ _).out (by omega) (by omega) (by omega) (below_alloc (below_alloc HB1.out _) _) HL.out); clear hb)
  refine HCall.out.mono ?_; rintro e w9 ⟨rfl, v9, h1, h2, h3, h4⟩; have e9 : w9.cell? ⟨w1.heap.size, 0, none⟩ = some v9 := Lib.cell_of_heap h1 0; have H2 := Aside0.mk h2; have H3 := Aside0.mk h3; clear h1 h2 h3 h4; go_wp2_with fail
  go_ret2
  exact ⟨_, rfl, H2.out, H3.out⟩

end Go.Proofs.Ytnafnieocpkkhaa.P

namespace Go.Proofs.Ytnafnieocpkkhaa.P
open Go.RowKit Go.Proofs.YtnafnieocpkkhaaW.PrintWords Go.Proofs.YtnafnieocpkkhaaW.PrintLast Go.Proofs.YtnafnieocpkkhaaW.PrintMore
attribute [local go_sem] max2_int min2_int max_two min_two max_three min_three max_four min_four
set_option linter.unusedVariables false
set_option linter.unusedSimpArgs false

/-- All but the row that is appended to lies as it lay; that row is the old one or a new one. -/
def marginaliaref05_Leaves.Fr (v v' : Value) (W W' : World) : Prop := W.heap.size ≤ W'.heap.size ∧ (∀ k, k < W.heap.size → some k ≠ v.ownBlock → W'.heap[k]? = W.heap[k]?) ∧ (v'.ownBlock = v.ownBlock ∨ ∃ b, v'.ownBlock = some b ∧ W.heap.size ≤ b)
theorem marginaliaref05_Leaves.Fr.refl (v : Value) (W : World) : marginaliaref05_Leaves.Fr v v W W := ⟨Nat.le_refl _, fun _ _ _ => rfl, .inl rfl⟩
theorem marginaliaref05_Leaves.Fr.trans {v v1 v2 : Value} {W W1 W2 : World} (h : marginaliaref05_Leaves.Fr v v1 W W1) (h2 : marginaliaref05_Leaves.Fr v1 v2 W1 W2) : marginaliaref05_Leaves.Fr v v2 W W2 := by
 refine ⟨Nat.le_trans h.1 h2.1, fun k hk hn => ?_, ?_⟩
 ·refine (h2.2.1 k (Nat.lt_of_lt_of_le hk h.1) ?_).trans (h.2.1 k hk hn)
  rcases h.2.2 with e | ⟨b, e, hb⟩
  ·rw [e]; exact hn
  ·rw [e]; intro q; injection q with q; omega
 ·rcases h2.2.2 with e | ⟨b, e, hb⟩
  ·rw [e]; exact h.2.2
  ·exact .inr ⟨b, e, Nat.le_trans h.1 hb⟩
theorem marginaliaref05_Leaves.Fr.alloc {v v' : Value} {W W' : World} (o : Obj) (h : marginaliaref05_Leaves.Fr v v' (W.alloc o) W') : marginaliaref05_Leaves.Fr v v' W W' := by
 have hs : (W.alloc o).heap.size = W.heap.size + 1 := (by simp)
 refine ⟨by have := h.1; omega, fun k hk hn => (h.2.1 k (by omega) hn).trans (Below.heap_alloc W o k hk), ?_⟩
 rcases h.2.2 with e | ⟨b, e, hb⟩
 ·exact .inl e
 ·exact .inr ⟨b, e, by omega⟩
theorem marginaliaref05_Leaves.Fr.grown {v v' : Value} {W W' : World} (hg : W.grownBy W' v.ownBlock) (hat : v'.ownBlock = v.ownBlock ∨ ∃ b, v'.ownBlock = some b ∧ W.heap.size ≤ b) (hs : W.heap.size ≤ W'.heap.size) : marginaliaref05_Leaves.Fr v v' W W' :=
 ⟨hs, fun k hk hn => hg.block k hk hn, hat⟩
theorem marginaliaref05_Leaves.Fr.blk {v v' : Value} {W W' : World} {g : Nat} {o : Obj} (h : marginaliaref05_Leaves.Fr v v' W W') (hb : W.heap[g]? = some o) (hn : some g ≠ v.ownBlock) : W'.heap[g]? = some o := (h.2.1 g (blk_lt hb) hn).trans hb
end Go.Proofs.Ytnafnieocpkkhaa.P

namespace Go.Proofs.Ytnafnieocpkkhaa.P
open Go.RowKit Go.Proofs.YtnafnieocpkkhaaW.PrintWords Go.Proofs.YtnafnieocpkkhaaW.PrintLast Go.Proofs.YtnafnieocpkkhaaW.PrintMore
attribute [local go_sem] max2_int min2_int max_two min_two max_three min_three max_four min_four
set_option linter.unusedVariables false
set_option linter.unusedSimpArgs false
def marginaliaref05_All.f (k : Nat) (a0_0 : Int) (a0_1 : Int) (a0_2 : ByteArray) (l0_3 : List (S26)) (a1 : Int) : Option ((List (List Int))) := tree_All.go a1 k ⟨a0_0, ⟨a0_1, a0_2⟩, l0_3⟩ [] []
def marginaliaref05_All.T7 : Bool × List (List Nat × List Nat) := (true, [([], []), ([0], [0]), ([], []), ([1, 2], [1, 2]), ([3], [3]), ([], []), ([], []), ([], []), ([6, 7], [6, 7]), ([], []), ([9], [9]), ([8, 10, 8], [8, 10]), ([], []), ([4, 5, 11, 12, 11], [4, 5, 11, 12]), ([13, 13, 0, 1, 2, 3, 4, 5, 6, 7, 8, 9, 10, 11, 12, 13], [12, 13])])
def marginaliaref05_All.B7 : List Nat := [0, 1, 0, 7, 15, 0, 0, 0, 192, 0, 512, 1984, 0, 8191, 16383]
theorem marginaliaref05_All.tab7 : rtab .any (opsOf Try.f60 7) = marginaliaref05_All.T7 := by kernel_rfl
theorem marginaliaref05_All.bits7 : waitsOk marginaliaref05_All.T7.2 marginaliaref05_All.B7 = true := by kernel_rfl
theorem marginaliaref05_All.fr_below {v : Value} {W W' : World} (h : Below W.heap.size W W') : marginaliaref05_Leaves.Fr v v W W' := ⟨h.size, fun k hk _ => h.block k hk, .inl rfl⟩
/-- A row of ints stays. -/
theorem marginaliaref05_All.here_fr {base base' : Nat} {w w1 : World} {v vo vo' : Value} {xs : List Int} {out : List (List Int)} (hI : tree_All.RI w base v xs) (hR : tree_All.RR w base' vo out) (h : marginaliaref05_Leaves.Fr vo vo' w w1) : tree_All.RI w1 base v xs :=
 Kd.R_mono (Kd.R_step (Kd.R_bound hI) (fun k hk hlt => h.2.1 k hlt (fun e => by
  obtain ⟨_, _, _, q, hq, cells, hc⟩ := hk; obtain ⟨cells2, hc2⟩ := Kd.R_typed hR k e.symm; have hq3 : q = 3 := List.mem_singleton.1 hq; subst hq3; rw [hc] at hc2; injection hc2 with hc2; injection hc2 with _ h2
  exact absurd h2 (by decide)))) (fun _ hk => hk.1)
/-- What all leaves: the row that it was handed, and the positions. -/
def marginaliaref05_All.Holds (w0 : World) (kind : Int) (m : Nat) : Prop := ∀ (n : S26) (A : Option Addr) (cc : Nat) (here : List Int) (v2 : Value) (out : List (List Int)) (vo : Value) (r : List (List Int)) (W : World), n.f2.length ≤ cc → Kd.C k26 w0 A n.f2.length n.f2 → tree_All.RI W w0.heap.size v2 here → tree_All.RR W w0.heap.size vo out → Below w0.heap.size w0 W → tree_All.go kind m n here out = some r →
 Calls Try.prog 60 #[.agg #[.int .i64 n.f0, .int .i64 n.f1.f0, .string n.f1.f1, .slice A n.f2.length cc], .int .i64 kind, v2, vo] W fun e W' => ∃ v', e = .returned v' ∧ tree_All.RR W' w0.heap.size v' r ∧ Below w0.heap.size w0 W' ∧ marginaliaref05_Leaves.Fr vo v' W W'
set_option maxHeartbeats 16000000 in
set_option maxRecDepth 100000 in
theorem marginaliaref05_All.ok (w0 : World) (kind : Int) : ∀ m, marginaliaref05_All.Holds w0 kind m
 | 0 => by intro n A cc here v2 out vo r W _ _ _ _ _ h; simp [tree_All.go] at h
 | m + 1 => by
  have IH := marginaliaref05_All.ok w0 kind m; intro n A cc here v2 out vo r W hcc hC hI hR hB h; have hu26 := Try.underlying26; rw [tree_All.go] at h; obtain ⟨hlh, h⟩ := Ut.ite_some h; obtain ⟨hlo, h⟩ := Ut.ite_some h; obtain ⟨A2, c2, e2, hc2, _⟩ := Kd.R_reads hI; subst e2; have HC := Aside0.mk hC; have HIH := Aside0.mk IH; have H := Aside0.mk h; have hmax : n.f2.length ≤ 9223372036854775807 := hC.2.1
  have hlt0 : ∀ k, vo.ownBlock = some k → k < W.heap.size := fun k hk => Kd.R_lt hR k hk
  have HBV : Aside0 (some W.heap.size ≠ vo.ownBlock) := ⟨fun q => absurd (hlt0 _ q.symm) (by omega)⟩
  obtain ⟨w1, hw1⟩ : ∃ w1, w1 = W.alloc (.cells #[.int .i64 n.f0, .int .i64 n.f1.f0, .string n.f1.f1, .slice A n.f2.length cc] 26) := ⟨_, rfl⟩
  have HF0 : Aside0 (∀ {v'} {W'}, marginaliaref05_Leaves.Fr vo v' w1 W' → marginaliaref05_Leaves.Fr vo v' W W') := ⟨fun h => marginaliaref05_Leaves.Fr.alloc _ (hw1 ▸ h)⟩
  have BK : Aside0 (w1.heap[W.heap.size]? = some (.cells #[.int .i64 n.f0, .int .i64 n.f1.f0, .string n.f1.f1, .slice A n.f2.length cc] 26 (0, 0))) := ⟨by rw [hw1]; exact blk_new _ _⟩
  have HI1 : Aside0 (tree_All.RI w1 w0.heap.size (.slice A2 here.length c2) here) := ⟨by rw [hw1]; exact Kd.R_alloc hI _⟩
  have HR1 : Aside0 (tree_All.RR w1 w0.heap.size vo out) := ⟨by rw [hw1]; exact Kd.R_alloc hR _⟩
  have HB1 : Aside0 (Below w0.heap.size w0 w1) := ⟨by rw [hw1]; exact below_alloc hB _⟩
  have HW1 := Aside0.mk hw1; clear hC hI hR hB h IH hlt0 hw1 hc2; go_enter Try.func60, Try.ntmps60
  go_upto_region 1 with fail
  rw [← HW1.out]; obtain ⟨p0, p1, p2, p3⟩ := zc4 BK
  go_upto_if 15 with fail
  (try simp only [Act.put, List.setIfInBounds_toArray, List.set_cons_zero, List.set_cons_succ])
  go_cut [9] (fun v9 wc => ∃ (o : List (List Int)), Aside0 (tree_All.kids (tree_All.go kind m) n.f2 0 here o = some r) ∧ Aside0 (tree_All.RR wc w0.heap.size v9 o) ∧ Aside0 (Below w0.heap.size w0 wc) ∧ Aside0 (marginaliaref05_Leaves.Fr vo v9 w1 wc))
  case first =>
   have h := H.out; by_cases c : n.f0 = kind
   ·rw [if_pos c] at h; have HH := Aside0.mk h; have cb : (n.f0 == kind) = true := beq_iff_eq.mpr c; clear c h H; rw [cb]
    go_wp2_with (first | ((with_reducible refine gate_dst (N := 17) rfl ?_); refine Kd.R_lit (Kd.int .i64) _ 3 ?hg (N := 17) ?hd (xs := ([] : List Int)) (inner := []) (ok := fun _ => True) (okp := fun _ => True) ?hr ?hp (fun _ hk => hk) trivial (Below.refl _ _) (Nat.le_refl _) (by simp) ?_; (case hd => rfl); (case hg => rfl); (case hr => first | (go_simp; done) | (go_simp; rfl)); (case hp => exact (Reps.none _ _)); intro v3 w3 ho3 hb3 hg_ hnew_; clear hg_ hnew_; have HO3 := Aside0.mk ho3; have HB3 := Aside0.mk hb3; clear ho3 hb3) | ((with_reducible refine gate_builtin (b := .append) (xs := #[.tmp 17, .tmp 18]) rfl ?_); at_builtin; refine Kd.R_append_rows (Kd.int .i64) (w0 := w1) w1.heap.size rfl (.tmp 17) (.tmp 18) 30 3 (.int .i64 0) 8 rfl Try.underlying30 info3 rfl (by decide) (by omega) v3 ([] : List Int) here _ _ _ (fun _ => True) (fun _ => False) rfl rfl ?aO ?aR (fun _ _ h => h) (fun _ h => h.elim) ?aF ?aB ?aS ?aL ?_; (case aR => exact (Kd.R_reads' (Kd.R_below HI1.out HB3.out)).2.2); (case aB => exact HB3.out); (case aF => exact fun _ _ => trivial); (case aO => exact HO3.out); (case aS => exact HB3.out.size); (case aL => rw [List.length_nil]; omega); intro v5 w5 ho5 hb5 hg5 hat5; rw [List.nil_append] at ho5; have HO5 := Aside0.mk ho5; have HB5 := Aside0.mk hb5; clear ho5 hb5 hg5 hat5; obtain ⟨A5, c5, e5⟩ := Kd.R_slice HO5.out; subst e5) | ((with_reducible refine gate_builtin (b := .append) (xs := #[.tmp 16, .tmp 20]) rfl ?_); at_builtin; refine Kd.R_append (Kd.slice 3 (Kd.int .i64)) (w0 := w0) w0.heap.size rfl (.tmp 16) (.tmp 20) 35 30 (.slice none 0 0) 24 rfl Try.underlying35 tree_All.infoRow rfl (by decide) (by omega) vo out here [.slice A5 here.length c5] (fun _ => True) (fun k => some k ≠ vo.ownBlock) rfl (by first | (go_simp; done) | (go_simp; rfl)) ?aP (fun k hk => ⟨trivial, hk⟩) ?aF ?aO ?aB ?aS ?aL ?_; (case aP => exact ⟨_, rfl, Kd.R_mono (Kd.R_lower (Kd.R_newR HO5.out HR1.out) HB1.out.size) (fun _ hk => hk.2)⟩); (case aF => exact fun _ _ => trivial); (case aO => exact Kd.R_below HR1.out HB5.out); (case aB => exact HB1.out.trans (HB5.out.mono HB1.out.size)); (case aS => exact (HB1.out.trans (HB5.out.mono HB1.out.size)).size); (case aL => omega); intro v7 w7 ho7 hb7 hg7 hat7; have HO7 := Aside0.mk ho7; have HB7 := Aside0.mk hb7; have HF7 := Aside0.mk (marginaliaref05_Leaves.Fr.trans (marginaliaref05_All.fr_below HB5.out) (marginaliaref05_Leaves.Fr.grown hg7 hat7 hg7.size)); clear ho7 hb7 hg7 hat7))
    go_meet
    case rel => exact ⟨_, HH, HO7, HB7, HF7⟩
   ·rw [if_neg c] at h; have HH := Aside0.mk h; have cb : (n.f0 == kind) = false := beq_eq_false_iff_ne.mpr c; clear c h H; rw [cb]; go_wp2_with fail
    go_meet
    case rel => exact ⟨_, HH, HR1, HB1, ⟨marginaliaref05_Leaves.Fr.refl _ _⟩⟩
  case rest =>
   clear H p0 p1 p2 p3; obtain ⟨o0, HH, HR, HB, HF⟩ := hcut; go_wp2_with fail
   go_loopg [9, 10] n.f2.length (fun kq v9 v10 w' => ∃ (i : Nat) (z : Int) (o : List (List Int)), v10 = .int .i64 z ∧ Aside0 (z = (i : Int)) ∧ Aside0 (i + kq = n.f2.length) ∧ Aside0 (tree_All.kids (tree_All.go kind m) (n.f2.drop i) i here o = some r) ∧ Aside0 (tree_All.RR w' w0.heap.size v9 o) ∧ Aside0 (Below w0.heap.size w0 w') ∧ Aside0 (marginaliaref05_Leaves.Fr vo v9 w1 w'))
   case atStart => exact ⟨0, 0, o0, rfl, ⟨rfl⟩, ⟨by omega⟩, HH, HR, HB, HF⟩
   case round =>
    clear HH HR HB HF; obtain ⟨i, z, o, rfl, HZ, HK, HH, HR, HB, HF⟩ := hrel; have BKr := Aside0.mk (HF.out.blk BK.out HBV.out); have HIr := Aside0.mk (marginaliaref05_All.here_fr HI1.out HR1.out HF.out); obtain ⟨p0, p1, p2, p3⟩ := zc4 BKr; obtain ⟨f0, f1, f2, f3⟩ := zz4 BKr; by_cases hlt : i < n.f2.length
    ·have c19b0 : decide (z < (n.f2.length : Int)) = true := decide_eq_true (by have := HZ.out; omega); have c20b0 : decide (0 ≤ z) = true := decide_eq_true (by have := HZ.out; omega); have H := HH.out; rw [List.drop_eq_getElem_cons hlt] at H; simp only [tree_All.kids] at H; obtain ⟨o', ho', Hn⟩ := Option.bind_eq_some_iff.mp H
     have hrd : n.f2[i] = rd_T26 n.f2 z := (by rw [HZ.out]; simp [rd_T26, hlt])
     rw [hrd, ← HZ.out] at ho'; have HO' := Aside0.mk ho'; have HH2 := Aside0.mk Hn; clear H HH ho' Hn hrd
     cases gk with
     | zero => exact absurd hlt (by have := HK.out; omega)
     | succ kq' =>
     obtain ⟨y115, hy115⟩ : ∃ y_ : List Int, y_ = (([] : List Int)) := ⟨_, rfl⟩
     have Ny115 := Aside0.mk hy115
     obtain ⟨y118, hy118⟩ : ∃ y_ : List Int, y_ = (y115 ++ here) := ⟨_, rfl⟩
     have Ny118 := Aside0.mk hy118
     obtain ⟨y121, hy121⟩ : ∃ y_ : List Int, y_ = (([z] : List Int)) := ⟨_, rfl⟩
     have Ny121 := Aside0.mk hy121
     obtain ⟨y124, hy124⟩ : ∃ y_ : List Int, y_ = (y118 ++ y121) := ⟨_, rfl⟩
     have Ny124 := Aside0.mk hy124
     have LMc21 : Aside0 (y115.length + here.length < 17592186044416) := ⟨by rw [hy115, List.length_nil]; omega⟩
     have LMc22 : Aside0 (y118.length + y121.length < 17592186044416) := ⟨by rw [hy118, hy121, hy115, List.nil_append, List.length_singleton]; omega⟩
     have HY : Aside0 (y124 = here ++ [z]) := ⟨by rw [hy124, hy118, hy115, hy121, List.nil_append]⟩
     clear hy115 hy118 hy121 hy124; obtain ⟨Ao25, co25, eo25⟩ := Kd.R_slice HR.out; subst eo25
     try go_wp2
     have HB0 : Aside0 (Below w0.heap.size w0 wr.drew) := ⟨below_drew1 HB.out⟩
     have HRb := Aside0.mk (Kd.R_drew HR.out); have HIb := Aside0.mk (Kd.R_drew HIr.out)
     have HFb : Aside0 (marginaliaref05_Leaves.Fr vo (.slice Ao25 o.length co25) w1 wr.drew) := ⟨HF.out⟩
     have BK101 := Aside0.mk (blk_drew BKr.out); have p114 : 0 ≤ z := of_decide_eq_true (by first | (with_reducible assumption) | assumption); have q114 : z < (n.f2.length : Int) := of_decide_eq_true (by first | (with_reducible assumption) | assumption); obtain ⟨ad114, A114_3, c114_3, e114, hx114_0, hx114_1, hx114_2, hx114_3, hl114_3, hi114_3⟩ := at_T26 HC.out z p114 q114; have hu114_3 := hx114_3; have hu114_2 := hx114_2; have hu114_1 := hx114_1; have hu114_0 := hx114_0
     cases e114
     replace hx114_0 := (HB0.out.cell (World.block_lt_of_cell? w0 _ hx114_0)).trans hx114_0; replace hx114_1 := (HB0.out.cell (World.block_lt_of_cell? w0 _ hx114_1)).trans hx114_1; replace hx114_2 := (HB0.out.cell (World.block_lt_of_cell? w0 _ hx114_2)).trans hx114_2; replace hx114_3 := (HB0.out.cell (World.block_lt_of_cell? w0 _ hx114_3)).trans hx114_3; have HR114_3 := Aside0.mk hi114_3; have HC114_3 := Aside0.mk hl114_3; clear hi114_3 hl114_3; replace p114 := eq_true p114; replace q114 := eq_true q114; refine start_ (n := 15) (S := fun w' => w'.cell? ⟨W.heap.size, 0, none⟩ = some (.int .i64 n.f0) ∧ w'.cell? ⟨W.heap.size, 1, none⟩ = some (.int .i64 n.f1.f0) ∧ w'.cell? ⟨W.heap.size, 2, none⟩ = some (.string n.f1.f1) ∧ w'.cell? ⟨W.heap.size, 3, none⟩ = some (.slice (some ad114) n.f2.length cc) ∧ w'.cell? (ad114.add ((z).toNat * 4)) = some (.int .i64 ((rd_T26 n.f2 z).f0)) ∧ w'.cell? ⟨(ad114.add ((z).toNat * 4)).block, (ad114.add ((z).toNat * 4)).off + 1, none⟩ = some (.int .i64 ((rd_T26 n.f2 z).f1.f0)) ∧ w'.cell? ⟨(ad114.add ((z).toNat * 4)).block, (ad114.add ((z).toNat * 4)).off + 2, none⟩ = some (.string ((rd_T26 n.f2 z).f1.f1)) ∧ w'.cell? ⟨(ad114.add ((z).toNat * 4)).block, (ad114.add ((z).toNat * 4)).off + 3, none⟩ = some (.slice A114_3 ((rd_T26 n.f2 z).f2).length c114_3)) (ds := []) #[false, false, false, false, false, false, false, false, false, false, false, false, false, false, false] (by kernel_rfl) rfl rfl ⟨(blk_cell BK101.out 0).trans rfl, (blk_cell BK101.out 1).trans rfl, (blk_cell BK101.out 2).trans rfl, (blk_cell BK101.out 3).trans rfl, hx114_0, hx114_1, hx114_2, hx114_3⟩ (fun hHeld => ?_); refine with_tabW marginaliaref05_All.tab7 marginaliaref05_All.bits7 (fun HT_ HW_ => ?_); generalize wr.drew = wb at HB0 HRb HIb HFb BK101 hx114_0 hx114_1 hx114_2 hx114_3 hHeld ⊢; have HB := Aside0.mk (Below.refl wb.heap.size wb); have hw114_0 := hx114_0; have hw114_1 := hx114_1; have hw114_2 := hx114_2; have hw114_3 := hx114_3; have HR2 := Aside0.mk (Kd.R_reads' HIb.out).2.2
     have HO_9 : Aside0 (Kd.N (Kd.slice 3 (Kd.int .i64)) 30 wb wb.heap.size (fun k_ => (wb.heap.size ≤ k_) ∧ k_ ≠ W.heap.size) (.slice none 0 0) ([] : List (List Int))) := ⟨Kd.N_nil _ _ _ _ _⟩
     refine pure_ (i := 0) (N := some 29) (v := ?_) (a' := ?_) #[true, false, false, false, false, false, false, false, false, false, false, false, false, false, false] rfl rfl (any_of HT_.out (by kernel_rfl)) (fun _ _ _ h => h) (Or.inl ⟨by rfl, ?_⟩) ?_ ?_; rotate_left
     ·intro w'; go_simp; with_reducible rfl
     rotate_left
     ·simp only [Act.put, List.setIfInBounds_toArray, List.set_cons_zero, List.set_cons_succ, i64_w, i32_w]; rfl
     refine pure_ (i := 2) (N := some 31) (v := ?_) (a' := ?_) #[true, false, true, false, false, false, false, false, false, false, false, false, false, false, false] rfl rfl (any_of HT_.out (by kernel_rfl)) (fun _ _ _ h => h) (Or.inl ⟨by rfl, ?_⟩) ?_ ?_; rotate_left
     ·intro w'; go_simp; with_reducible rfl
     rotate_left
     ·simp only [Act.put, List.setIfInBounds_toArray, List.set_cons_zero, List.set_cons_succ, i64_w, i32_w]; rfl
     refine pure_ (i := 5) (N := some 34) (v := ?_) (a' := ?_) #[true, false, true, false, false, true, false, false, false, false, false, false, false, false, false] rfl rfl (any_of HT_.out (by kernel_rfl)) (fun _ _ _ h => h) (Or.inl ⟨by rfl, ?_⟩) ?_ ?_; rotate_left
     ·intro w'; go_simp; with_reducible rfl
     rotate_left
     ·simp only [Act.put, List.setIfInBounds_toArray, List.set_cons_zero, List.set_cons_succ, i64_w, i32_w]; rfl
     refine pure_ (i := 7) (N := some 36) (v := ?_) (a' := ?_) #[true, false, true, false, false, true, false, true, false, false, false, false, false, false, false] rfl rfl (any_of HT_.out (by kernel_rfl)) (fun _ _ _ h => h) (Or.inl ⟨by rfl, ?_⟩) ?_ ?_; rotate_left
     ·intro w'; go_simp; with_reducible rfl
     rotate_left
     ·simp only [Act.put, List.setIfInBounds_toArray, List.set_cons_zero, List.set_cons_succ, i64_w, i32_w]; rfl
     refine pure_ (i := 9) (N := some 38) (v := ?_) (a' := ?_) #[true, false, true, false, false, true, false, true, false, true, false, false, false, false, false] rfl rfl (any_of HT_.out (by kernel_rfl)) (fun _ _ _ h => h) (Or.inl ⟨by rfl, ?_⟩) ?_ ?_; rotate_left
     ·intro w'; go_simp; with_reducible rfl
     rotate_left
     ·simp only [Act.put, List.setIfInBounds_toArray, List.set_cons_zero, List.set_cons_succ, i64_w, i32_w]; rfl
     refine pure_ (i := 12) (N := some 41) (v := ?_) (a' := ?_) #[true, false, true, false, false, true, false, true, false, true, false, false, true, false, false] rfl rfl (any_of HT_.out (by kernel_rfl)) (fun _ _ _ h => h) (Or.inl ⟨by rfl, ?_⟩) ?_ ?_; rotate_left
     ·intro w'; go_simp; with_reducible rfl
     rotate_left
     ·simp only [Act.put, List.setIfInBounds_toArray, List.set_cons_zero, List.set_cons_succ, i64_w, i32_w]; rfl
     refine take_ (i := 1) (N := some 30) (v := ?_) (a' := ?_) #[true, true, true, false, false, true, false, true, false, true, false, false, true, false, false] rfl rfl (take_ofW HT_.out HW_.out (by kernel_rfl)) (fun _ _ _ h => h) (Or.inl ⟨by rfl, ?_⟩) hHeld ?_ ?_; rotate_left
     ·rintro w' ⟨s0, s1, s2, s3, s4, s5, s6, s7⟩; go_simp; with_reducible rfl
     rotate_left
     ·simp only [Act.put, List.setIfInBounds_toArray, List.set_cons_zero, List.set_cons_succ, i64_w, i32_w]; rfl
     refine pure_ (i := 3) (N := some 32) (v := ?_) (a' := ?_) #[true, true, true, true, false, true, false, true, false, true, false, false, true, false, false] rfl rfl (any_of HT_.out (by kernel_rfl)) (fun _ _ _ h => h) (Or.inl ⟨by rfl, ?_⟩) ?_ ?_; rotate_left
     ·intro w'; go_simp; with_reducible rfl
     rotate_left
     ·simp only [Act.put, List.setIfInBounds_toArray, List.set_cons_zero, List.set_cons_succ, i64_w, i32_w]; rfl
     refine take_ (i := 4) (N := some 33) (v := ?_) (a' := ?_) #[true, true, true, true, true, true, false, true, false, true, false, false, true, false, false] rfl rfl (take_ofW HT_.out HW_.out (by kernel_rfl)) (fun _ _ _ h => h) (Or.inl ⟨by rfl, ?_⟩) hHeld ?_ ?_; rotate_left
     ·rintro w' ⟨s0, s1, s2, s3, s4, s5, s6, s7⟩; go_simp; with_reducible rfl
     rotate_left
     ·simp only [Act.put, List.setIfInBounds_toArray, List.set_cons_zero, List.set_cons_succ, i64_w, i32_w]; rfl
     refine join_ (σ := Value × Value × Value) 3 #[true, true, true, true, true, true, true, true, true, true, true, false, true, false, false] (fun s_ => [(35, s_.1), (37, s_.2.1), (39, s_.2.2)]) (fun s_ w' => (w'.cell? ⟨W.heap.size, 0, none⟩ = some (.int .i64 n.f0) ∧ w'.cell? ⟨W.heap.size, 1, none⟩ = some (.int .i64 n.f1.f0) ∧ w'.cell? ⟨W.heap.size, 2, none⟩ = some (.string n.f1.f1) ∧ w'.cell? ⟨W.heap.size, 3, none⟩ = some (.slice (some ad114) n.f2.length cc) ∧ w'.cell? (ad114.add ((z).toNat * 4)) = some (.int .i64 ((rd_T26 n.f2 z).f0)) ∧ w'.cell? ⟨(ad114.add ((z).toNat * 4)).block, (ad114.add ((z).toNat * 4)).off + 1, none⟩ = some (.int .i64 ((rd_T26 n.f2 z).f1.f0)) ∧ w'.cell? ⟨(ad114.add ((z).toNat * 4)).block, (ad114.add ((z).toNat * 4)).off + 2, none⟩ = some (.string ((rd_T26 n.f2 z).f1.f1)) ∧ w'.cell? ⟨(ad114.add ((z).toNat * 4)).block, (ad114.add ((z).toNat * 4)).off + 3, none⟩ = some (.slice A114_3 ((rd_T26 n.f2 z).f2).length c114_3)) ∧ (Kd.R (Kd.int .i64) 3 w' wb.heap.size (fun k_ => (wb.heap.size ≤ k_) ∧ some k_ ≠ (s_.2.2 : Value).ownBlock) s_.2.1 y118) ∧ (Kd.R (Kd.int .i64) 3 w' wb.heap.size (fun k_ => (wb.heap.size ≤ k_) ∧ some k_ ≠ (s_.2.1 : Value).ownBlock) s_.2.2 y121) ∧ (Kd.N (Kd.slice 3 (Kd.int .i64)) 30 w' wb.heap.size (fun k_ => (wb.heap.size ≤ k_) ∧ some k_ ≠ (s_.2.1 : Value).ownBlock ∧ some k_ ≠ (s_.2.2 : Value).ownBlock ∧ k_ ≠ W.heap.size) (.slice none 0 0) ([] : List (List Int))) ∧ (w'.heap[W.heap.size]? = some (.cells #[.int .i64 n.f0, .int .i64 n.f1.f0, .string n.f1.f1, .slice (some ad114) n.f2.length cc] 26 (0, 0))) ∧ (Below wb.heap.size wb w')) ?_ ?_; rotate_left
     ·intro hCont; refine two_ (i := 6) (j := 10) (Ni := some 35) (Nj := some 39) #[true, true, true, true, true, true, true, true, false, true, false, false, true, false, false] #[true, true, true, true, true, true, false, true, false, true, true, false, true, false, false] rfl rfl rfl rfl (two_of HT_.out (by kernel_rfl)) (by decide) (by decide) (fun K hK => ?_) (fun K hK => ?_)
      ·skip
       refine Kd.R_lit_step (Kd.int .i64) _ 3 ?hg (N := 35) ?hd (xs := ([] : List Int)) (inner := []) (ok := fun _ => True) (okp := fun _ => True) ?hr ?hp (fun _ hk => hk) trivial (Below.refl _ _) (Nat.le_refl _) (by simp) ?_; (case hd => rfl); (case hg => rfl); (case hr => first | (go_simp; done) | (go_simp; rfl)); (case hp => exact (Reps.none _ _)); intro v116 w27 ho28 hb hg_ hnew_; clear hg_ hnew_
       (first | rw [← Ny115.out] at ho28 | (simp only [Int.reduceToNat] at ho28; rw [← Ny115.out] at ho28))
       have n0_ := Aside0.mk (Kd.N_elder' (by (with_reducible repeat (first | apply Kd.N_alloc | apply Kd.N_drewN | apply Kd.N_drew)); exact HO_9.out) (Kd.R_base ho28) hb); have n1_ := Aside0.mk (Kd.R_lower (Kd.R_newM (M := fun k_ => (wb.heap.size ≤ k_)) ho28 (below_size (by repeat (first | (with_reducible first | exact HB.out | apply below_alloc | apply pw_below_drewN | apply below_drew1 | refine below_set ?_ GE101.out) | exact HB.out))) (fun k_ h_ => h_)) (below_size (by repeat (first | (with_reducible first | exact HB.out | apply below_alloc | apply pw_below_drewN | apply below_drew1 | refine below_set ?_ GE101.out) | exact HB.out)))); have n2_ := Aside0.mk (blk_below (g := W.heap.size) (o := .cells #[.int .i64 n.f0, .int .i64 n.f1.f0, .string n.f1.f1, .slice (some ad114) n.f2.length cc] 26 (0, 0)) (Cl.blk BK101.out) hb); have n3_ := Aside0.mk (below_step (by repeat (first | (with_reducible first | exact HB.out | apply below_alloc | apply pw_below_drewN | apply below_drew1 | refine below_set ?_ GE101.out) | exact HB.out)) hb); clear HO_9 BK101 HB; have HO_9 := n0_; have HO117 := n1_; have BK101 := n2_; have HB := n3_; clear n0_ n1_ n2_ n3_ hb ho28; refine hK.out _ _ ⟨(blk_cell BK101.out 0).trans rfl, (blk_cell BK101.out 1).trans rfl, (blk_cell BK101.out 2).trans rfl, (blk_cell BK101.out 3).trans rfl, ((HB.out.cell (World.block_lt_of_cell? wb _ hw114_0)).trans hw114_0), ((HB.out.cell (World.block_lt_of_cell? wb _ hw114_1)).trans hw114_1), ((HB.out.cell (World.block_lt_of_cell? wb _ hw114_2)).trans hw114_2), ((HB.out.cell (World.block_lt_of_cell? wb _ hw114_3)).trans hw114_3)⟩ (fun hHeld => ?_); clear hK K; refine norm_ (a' := ?_) ?_ ?_; rotate_left
       ·show Act.put _ (some 35) _ = _
        simp only [Act.put, List.setIfInBounds_toArray, List.set_cons_zero, List.set_cons_succ, i64_w, i32_w]; rfl
       refine two_ (i := 8) (j := 10) (Ni := some 37) (Nj := some 39) #[true, true, true, true, true, true, true, true, true, true, false, false, true, false, false] #[true, true, true, true, true, true, true, true, false, true, true, false, true, false, false] rfl rfl rfl rfl (two_of HT_.out (by kernel_rfl)) (by decide) (by decide) (fun K hK => ?_) (fun K hK => ?_)
       ·skip
        refine Kd.R_append_rows_step (Kd.int .i64) (w0 := wb) wb.heap.size (by rfl) (.tmp 35) (.tmp 36) 30 3 (.int .i64 0) 8 rfl Try.underlying30 info3 rfl (by decide) (by omega) v116 y115 here _ _ _ (fun k_ => (wb.heap.size ≤ k_)) (fun _ => False) rfl rfl ?aO ?aR (fun _ _ h => h) (fun _ h => h.elim) ?aF ?aB ?aS ?aL ?_
        (case aR => repeat (first | exact (Kd.C_below HR2.out HB.out) | (with_reducible refine Kd.C_alloc ?_ _) | (with_reducible refine Kd.C_drewN ?_ _) | (with_reducible refine Kd.C_drew ?_)))
        (case aB => exact (by repeat (first | (with_reducible first | exact HB.out | apply below_alloc | apply pw_below_drewN | apply below_drew1 | refine below_set ?_ GE101.out) | exact HB.out)))
        (case aF => exact (fun k_ hk => (Nat.le_trans (below_size (by repeat (first | (with_reducible first | exact HB.out | apply below_alloc | apply pw_below_drewN | apply below_drew1 | refine below_set ?_ GE101.out) | exact HB.out))) hk)))
        (case aO => exact (by (with_reducible repeat (first | apply Kd.R_alloc | apply Kd.R_drewN | apply Kd.R_drew)); exact Kd.R_mono HO117.out (fun _ hk => hk.1)))
        (case aS => exact (below_size (by repeat (first | (with_reducible first | exact HB.out | apply below_alloc | apply pw_below_drewN | apply below_drew1 | refine below_set ?_ GE101.out) | exact HB.out))))
        (case aL => have := LMc21.out; omega)
        intro v119 w29 ho hb hg hat; rw [← Ny118.out] at ho; have n0_ := Aside0.mk (Kd.N_afterv (ok := (fun k_ => (wb.heap.size ≤ k_) ∧ k_ ≠ W.heap.size)) (by (with_reducible repeat (first | apply Kd.N_alloc | apply Kd.N_drewN | apply Kd.N_drew)); exact HO_9.out) hg hat); have n1_ := Aside0.mk (blk_grown (g := W.heap.size) (o := .cells #[.int .i64 n.f0, .int .i64 n.f1.f0, .string n.f1.f1, .slice (some ad114) n.f2.length cc] 26 (0, 0)) (Cl.blk BK101.out) hg (Kd.R_ne HO117.out BK101.out (by decide))); have n2_ := Aside0.mk (hb); have n3_ := Aside0.mk (ho); clear HO_9 BK101 HB HO117; have HO_9 := n0_; have BK101 := n1_; have HB := n2_; have HO120 := n3_; clear n0_ n1_ n2_ n3_ ho hb hg hat; refine hK.out _ _ ⟨(blk_cell BK101.out 0).trans rfl, (blk_cell BK101.out 1).trans rfl, (blk_cell BK101.out 2).trans rfl, (blk_cell BK101.out 3).trans rfl, ((HB.out.cell (World.block_lt_of_cell? wb _ hw114_0)).trans hw114_0), ((HB.out.cell (World.block_lt_of_cell? wb _ hw114_1)).trans hw114_1), ((HB.out.cell (World.block_lt_of_cell? wb _ hw114_2)).trans hw114_2), ((HB.out.cell (World.block_lt_of_cell? wb _ hw114_3)).trans hw114_3)⟩ (fun hHeld => ?_); clear hK K; refine norm_ (a' := ?_) ?_ ?_; rotate_left
        ·show Act.put _ (some 37) _ = _
         simp only [Act.put, List.setIfInBounds_toArray, List.set_cons_zero, List.set_cons_succ, i64_w, i32_w]; rfl
        refine one_ (i := 10) (N := some 39) #[true, true, true, true, true, true, true, true, true, true, true, false, true, false, false] rfl rfl (one_of HT_.out (by kernel_rfl)) (by decide) (fun K hK => ?_); refine Kd.R_lit_step (Kd.int .i64) _ 3 ?hg (N := 39) ?hd (xs := ([z] : List Int)) (inner := [.int .i64 z]) (ok := fun _ => True) (okp := fun _ => True) ?hr ?hp (fun _ hk => hk) trivial (Below.refl _ _) (Nat.le_refl _) (by simp) ?_; (case hd => rfl); (case hg => rfl); (case hr => first | (go_simp; done) | (go_simp; rfl)); (case hp => exact (Reps.one (show Kd.M (Kd.int .i64) _ _ _ z [.int .i64 z] from rfl) (Reps.none _ _))); intro v122 w30 ho31 hb hg_ hnew_; clear hg_ hnew_
        (first | rw [← Ny121.out] at ho31 | (simp only [Int.reduceToNat] at ho31; rw [← Ny121.out] at ho31))
        have n0_ := Aside0.mk (Kd.N_elder' (by (with_reducible repeat (first | apply Kd.N_alloc | apply Kd.N_drewN | apply Kd.N_drew)); exact HO_9.out) (Kd.R_base ho31) hb); have n1_ := Aside0.mk (Kd.R_elder' (by (with_reducible repeat (first | apply Kd.R_alloc | apply Kd.R_drewN | apply Kd.R_drew)); exact HO120.out) (Kd.R_base ho31) hb); have n2_ := Aside0.mk (Kd.R_lower (Kd.R_new' (Kd.R_newM (M := fun k_ => (wb.heap.size ≤ k_)) ho31 (below_size (by repeat (first | (with_reducible first | exact HB.out | apply below_alloc | apply pw_below_drewN | apply below_drew1 | refine below_set ?_ GE101.out) | exact HB.out))) (fun k_ h_ => h_)) (Kd.R_lt (by (with_reducible repeat (first | apply Kd.R_alloc | apply Kd.R_drewN | apply Kd.R_drew)); exact HO120.out))) (below_size (by repeat (first | (with_reducible first | exact HB.out | apply below_alloc | apply pw_below_drewN | apply below_drew1 | refine below_set ?_ GE101.out) | exact HB.out)))); have n3_ := Aside0.mk (blk_below (g := W.heap.size) (o := .cells #[.int .i64 n.f0, .int .i64 n.f1.f0, .string n.f1.f1, .slice (some ad114) n.f2.length cc] 26 (0, 0)) (Cl.blk BK101.out) hb); have n4_ := Aside0.mk (below_step (by repeat (first | (with_reducible first | exact HB.out | apply below_alloc | apply pw_below_drewN | apply below_drew1 | refine below_set ?_ GE101.out) | exact HB.out)) hb); clear HO_9 HO120 BK101 HB; have HO_9 := n0_; have HO120 := n1_; have HO123 := n2_; have BK101 := n3_; have HB := n4_; clear n0_ n1_ n2_ n3_ n4_ hb ho31; refine hK.out _ _ ⟨(blk_cell BK101.out 0).trans rfl, (blk_cell BK101.out 1).trans rfl, (blk_cell BK101.out 2).trans rfl, (blk_cell BK101.out 3).trans rfl, ((HB.out.cell (World.block_lt_of_cell? wb _ hw114_0)).trans hw114_0), ((HB.out.cell (World.block_lt_of_cell? wb _ hw114_1)).trans hw114_1), ((HB.out.cell (World.block_lt_of_cell? wb _ hw114_2)).trans hw114_2), ((HB.out.cell (World.block_lt_of_cell? wb _ hw114_3)).trans hw114_3)⟩ (fun hHeld => ?_); clear hK K; refine norm_ (a' := ?_) ?_ ?_; rotate_left
        ·show Act.put _ (some 39) _ = _
         simp only [Act.put, List.setIfInBounds_toArray, List.set_cons_zero, List.set_cons_succ, i64_w, i32_w]; rfl
        exact norm_ (by simp only [putAll, Act.put, List.setIfInBounds_toArray, List.set_cons_zero, List.set_cons_succ]) (hCont (v116, v119, v122) _ ⟨hHeld, (by (with_reducible repeat (first | apply Kd.R_alloc | apply Kd.R_drewN | apply Kd.R_drew)); exact HO120.out), (by (with_reducible repeat (first | apply Kd.R_alloc | apply Kd.R_drewN | apply Kd.R_drew)); exact Kd.R_mono HO123.out (fun _ hk => ⟨hk.1.1, hk.2⟩)), (by (with_reducible repeat (first | apply Kd.N_alloc | apply Kd.N_drewN | apply Kd.N_drew)); exact Kd.N_mono HO_9.out (fun _ hk => ⟨hk.1.1.1, ⟨hk.1.2, ⟨hk.2, hk.1.1.2⟩⟩⟩)), (Cl.blk BK101.out), (by repeat (first | (with_reducible first | exact HB.out | apply below_alloc | apply pw_below_drewN | apply below_drew1 | refine below_set ?_ GE101.out) | exact HB.out))⟩)
       ·skip
        refine Kd.R_lit_step (Kd.int .i64) _ 3 ?hg (N := 39) ?hd (xs := ([z] : List Int)) (inner := [.int .i64 z]) (ok := fun _ => True) (okp := fun _ => True) ?hr ?hp (fun _ hk => hk) trivial (Below.refl _ _) (Nat.le_refl _) (by simp) ?_; (case hd => rfl); (case hg => rfl); (case hr => first | (go_simp; done) | (go_simp; rfl)); (case hp => exact (Reps.one (show Kd.M (Kd.int .i64) _ _ _ z [.int .i64 z] from rfl) (Reps.none _ _))); intro v122 w29 ho30 hb hg_ hnew_; clear hg_ hnew_
        (first | rw [← Ny121.out] at ho30 | (simp only [Int.reduceToNat] at ho30; rw [← Ny121.out] at ho30))
        have n0_ := Aside0.mk (Kd.N_elder' (by (with_reducible repeat (first | apply Kd.N_alloc | apply Kd.N_drewN | apply Kd.N_drew)); exact HO_9.out) (Kd.R_base ho30) hb); have n1_ := Aside0.mk (Kd.R_elder' (by (with_reducible repeat (first | apply Kd.R_alloc | apply Kd.R_drewN | apply Kd.R_drew)); exact HO117.out) (Kd.R_base ho30) hb); have n2_ := Aside0.mk (Kd.R_lower (Kd.R_new' (Kd.R_newM (M := fun k_ => (wb.heap.size ≤ k_)) ho30 (below_size (by repeat (first | (with_reducible first | exact HB.out | apply below_alloc | apply pw_below_drewN | apply below_drew1 | refine below_set ?_ GE101.out) | exact HB.out))) (fun k_ h_ => h_)) (Kd.R_lt (by (with_reducible repeat (first | apply Kd.R_alloc | apply Kd.R_drewN | apply Kd.R_drew)); exact HO117.out))) (below_size (by repeat (first | (with_reducible first | exact HB.out | apply below_alloc | apply pw_below_drewN | apply below_drew1 | refine below_set ?_ GE101.out) | exact HB.out)))); have n3_ := Aside0.mk (blk_below (g := W.heap.size) (o := .cells #[.int .i64 n.f0, .int .i64 n.f1.f0, .string n.f1.f1, .slice (some ad114) n.f2.length cc] 26 (0, 0)) (Cl.blk BK101.out) hb); have n4_ := Aside0.mk (below_step (by repeat (first | (with_reducible first | exact HB.out | apply below_alloc | apply pw_below_drewN | apply below_drew1 | refine below_set ?_ GE101.out) | exact HB.out)) hb); clear HO_9 HO117 BK101 HB; have HO_9 := n0_; have HO117 := n1_; have HO123 := n2_; have BK101 := n3_; have HB := n4_; clear n0_ n1_ n2_ n3_ n4_ hb ho30; refine hK.out _ _ ⟨(blk_cell BK101.out 0).trans rfl, (blk_cell BK101.out 1).trans rfl, (blk_cell BK101.out 2).trans rfl, (blk_cell BK101.out 3).trans rfl, ((HB.out.cell (World.block_lt_of_cell? wb _ hw114_0)).trans hw114_0), ((HB.out.cell (World.block_lt_of_cell? wb _ hw114_1)).trans hw114_1), ((HB.out.cell (World.block_lt_of_cell? wb _ hw114_2)).trans hw114_2), ((HB.out.cell (World.block_lt_of_cell? wb _ hw114_3)).trans hw114_3)⟩ (fun hHeld => ?_); clear hK K; refine norm_ (a' := ?_) ?_ ?_; rotate_left
        ·show Act.put _ (some 39) _ = _
         simp only [Act.put, List.setIfInBounds_toArray, List.set_cons_zero, List.set_cons_succ, i64_w, i32_w]; rfl
        refine one_ (i := 8) (N := some 37) #[true, true, true, true, true, true, true, true, true, true, true, false, true, false, false] rfl rfl (one_of HT_.out (by kernel_rfl)) (by decide) (fun K hK => ?_); refine Kd.R_append_rows_step (Kd.int .i64) (w0 := wb) wb.heap.size (by rfl) (.tmp 35) (.tmp 36) 30 3 (.int .i64 0) 8 rfl Try.underlying30 info3 rfl (by decide) (by omega) v116 y115 here _ _ _ (fun k_ => (wb.heap.size ≤ k_) ∧ some k_ ≠ (v122 : Value).ownBlock) (fun _ => False) rfl rfl ?aO ?aR (fun _ _ h => h) (fun _ h => h.elim) ?aF ?aB ?aS ?aL ?_
        (case aR => repeat (first | exact (Kd.C_below HR2.out HB.out) | (with_reducible refine Kd.C_alloc ?_ _) | (with_reducible refine Kd.C_drewN ?_ _) | (with_reducible refine Kd.C_drew ?_)))
        (case aB => exact (by repeat (first | (with_reducible first | exact HB.out | apply below_alloc | apply pw_below_drewN | apply below_drew1 | refine below_set ?_ GE101.out) | exact HB.out)))
        (case aF => exact (fun k_ hk => ⟨(Nat.le_trans (below_size (by repeat (first | (with_reducible first | exact HB.out | apply below_alloc | apply pw_below_drewN | apply below_drew1 | refine below_set ?_ GE101.out) | exact HB.out))) hk), Kd.fresh' (Kd.R_lt (by (with_reducible repeat (first | apply Kd.R_alloc | apply Kd.R_drewN | apply Kd.R_drew)); exact HO123.out)) k_ hk⟩))
        (case aO => exact (by (with_reducible repeat (first | apply Kd.R_alloc | apply Kd.R_drewN | apply Kd.R_drew)); exact Kd.R_mono HO117.out (fun _ hk => ⟨hk.1.1, hk.2⟩)))
        (case aS => exact (below_size (by repeat (first | (with_reducible first | exact HB.out | apply below_alloc | apply pw_below_drewN | apply below_drew1 | refine below_set ?_ GE101.out) | exact HB.out))))
        (case aL => have := LMc21.out; omega)
        intro v119 w31 ho hb hg hat; rw [← Ny118.out] at ho; have n0_ := Aside0.mk (Kd.N_afterv (ok := (fun k_ => (wb.heap.size ≤ k_) ∧ some k_ ≠ (v122 : Value).ownBlock ∧ k_ ≠ W.heap.size)) (by (with_reducible repeat (first | apply Kd.N_alloc | apply Kd.N_drewN | apply Kd.N_drew)); exact Kd.N_mono HO_9.out (fun _ hk => ⟨⟨hk.1.1.1, ⟨hk.2, hk.1.1.2⟩⟩, hk.1.2⟩)) hg hat); have n1_ := Aside0.mk (blk_grown (g := W.heap.size) (o := .cells #[.int .i64 n.f0, .int .i64 n.f1.f0, .string n.f1.f1, .slice (some ad114) n.f2.length cc] 26 (0, 0)) (Cl.blk BK101.out) hg (Kd.R_ne HO117.out BK101.out (by decide))); have n2_ := Aside0.mk (Kd.R_after (ok := (fun k_ => (wb.heap.size ≤ k_))) (by (with_reducible repeat (first | apply Kd.R_alloc | apply Kd.R_drewN | apply Kd.R_drew)); exact Kd.R_mono HO123.out (fun _ hk => ⟨hk.1.1, hk.2⟩)) hg hat); have n3_ := Aside0.mk (hb); have n4_ := Aside0.mk (ho); clear HO_9 BK101 HO123 HB HO117; have HO_9 := n0_; have BK101 := n1_; have HO123 := n2_; have HB := n3_; have HO120 := n4_; clear n0_ n1_ n2_ n3_ n4_ ho hb hg hat; refine hK.out _ _ ⟨(blk_cell BK101.out 0).trans rfl, (blk_cell BK101.out 1).trans rfl, (blk_cell BK101.out 2).trans rfl, (blk_cell BK101.out 3).trans rfl, ((HB.out.cell (World.block_lt_of_cell? wb _ hw114_0)).trans hw114_0), ((HB.out.cell (World.block_lt_of_cell? wb _ hw114_1)).trans hw114_1), ((HB.out.cell (World.block_lt_of_cell? wb _ hw114_2)).trans hw114_2), ((HB.out.cell (World.block_lt_of_cell? wb _ hw114_3)).trans hw114_3)⟩ (fun hHeld => ?_); clear hK K; refine norm_ (a' := ?_) ?_ ?_; rotate_left
        ·show Act.put _ (some 37) _ = _
         simp only [Act.put, List.setIfInBounds_toArray, List.set_cons_zero, List.set_cons_succ, i64_w, i32_w]; rfl
        exact norm_ (by simp only [putAll, Act.put, List.setIfInBounds_toArray, List.set_cons_zero, List.set_cons_succ]) (hCont (v116, v119, v122) _ ⟨hHeld, (by (with_reducible repeat (first | apply Kd.R_alloc | apply Kd.R_drewN | apply Kd.R_drew)); exact HO120.out), (by (with_reducible repeat (first | apply Kd.R_alloc | apply Kd.R_drewN | apply Kd.R_drew)); exact HO123.out), (by (with_reducible repeat (first | apply Kd.N_alloc | apply Kd.N_drewN | apply Kd.N_drew)); exact Kd.N_mono HO_9.out (fun _ hk => ⟨hk.1.1, ⟨hk.2, ⟨hk.1.2.1, hk.1.2.2⟩⟩⟩)), (Cl.blk BK101.out), (by repeat (first | (with_reducible first | exact HB.out | apply below_alloc | apply pw_below_drewN | apply below_drew1 | refine below_set ?_ GE101.out) | exact HB.out))⟩)
      ·skip
       refine Kd.R_lit_step (Kd.int .i64) _ 3 ?hg (N := 39) ?hd (xs := ([z] : List Int)) (inner := [.int .i64 z]) (ok := fun _ => True) (okp := fun _ => True) ?hr ?hp (fun _ hk => hk) trivial (Below.refl _ _) (Nat.le_refl _) (by simp) ?_; (case hd => rfl); (case hg => rfl); (case hr => first | (go_simp; done) | (go_simp; rfl)); (case hp => exact (Reps.one (show Kd.M (Kd.int .i64) _ _ _ z [.int .i64 z] from rfl) (Reps.none _ _))); intro v122 w27 ho28 hb hg_ hnew_; clear hg_ hnew_
       (first | rw [← Ny121.out] at ho28 | (simp only [Int.reduceToNat] at ho28; rw [← Ny121.out] at ho28))
       have n0_ := Aside0.mk (Kd.N_elder' (by (with_reducible repeat (first | apply Kd.N_alloc | apply Kd.N_drewN | apply Kd.N_drew)); exact HO_9.out) (Kd.R_base ho28) hb); have n1_ := Aside0.mk (Kd.R_lower (Kd.R_newM (M := fun k_ => (wb.heap.size ≤ k_)) ho28 (below_size (by repeat (first | (with_reducible first | exact HB.out | apply below_alloc | apply pw_below_drewN | apply below_drew1 | refine below_set ?_ GE101.out) | exact HB.out))) (fun k_ h_ => h_)) (below_size (by repeat (first | (with_reducible first | exact HB.out | apply below_alloc | apply pw_below_drewN | apply below_drew1 | refine below_set ?_ GE101.out) | exact HB.out)))); have n2_ := Aside0.mk (blk_below (g := W.heap.size) (o := .cells #[.int .i64 n.f0, .int .i64 n.f1.f0, .string n.f1.f1, .slice (some ad114) n.f2.length cc] 26 (0, 0)) (Cl.blk BK101.out) hb); have n3_ := Aside0.mk (below_step (by repeat (first | (with_reducible first | exact HB.out | apply below_alloc | apply pw_below_drewN | apply below_drew1 | refine below_set ?_ GE101.out) | exact HB.out)) hb); clear HO_9 BK101 HB; have HO_9 := n0_; have HO123 := n1_; have BK101 := n2_; have HB := n3_; clear n0_ n1_ n2_ n3_ hb ho28; refine hK.out _ _ ⟨(blk_cell BK101.out 0).trans rfl, (blk_cell BK101.out 1).trans rfl, (blk_cell BK101.out 2).trans rfl, (blk_cell BK101.out 3).trans rfl, ((HB.out.cell (World.block_lt_of_cell? wb _ hw114_0)).trans hw114_0), ((HB.out.cell (World.block_lt_of_cell? wb _ hw114_1)).trans hw114_1), ((HB.out.cell (World.block_lt_of_cell? wb _ hw114_2)).trans hw114_2), ((HB.out.cell (World.block_lt_of_cell? wb _ hw114_3)).trans hw114_3)⟩ (fun hHeld => ?_); clear hK K; refine norm_ (a' := ?_) ?_ ?_; rotate_left
       ·show Act.put _ (some 39) _ = _
        simp only [Act.put, List.setIfInBounds_toArray, List.set_cons_zero, List.set_cons_succ, i64_w, i32_w]; rfl
       refine one_ (i := 6) (N := some 35) #[true, true, true, true, true, true, true, true, false, true, true, false, true, false, false] rfl rfl (one_of HT_.out (by kernel_rfl)) (by decide) (fun K hK => ?_); refine Kd.R_lit_step (Kd.int .i64) _ 3 ?hg (N := 35) ?hd (xs := ([] : List Int)) (inner := []) (ok := fun _ => True) (okp := fun _ => True) ?hr ?hp (fun _ hk => hk) trivial (Below.refl _ _) (Nat.le_refl _) (by simp) ?_; (case hd => rfl); (case hg => rfl); (case hr => first | (go_simp; done) | (go_simp; rfl)); (case hp => exact (Reps.none _ _)); intro v116 w29 ho30 hb hg_ hnew_; clear hg_ hnew_
       (first | rw [← Ny115.out] at ho30 | (simp only [Int.reduceToNat] at ho30; rw [← Ny115.out] at ho30))
       have n0_ := Aside0.mk (Kd.N_elder' (by (with_reducible repeat (first | apply Kd.N_alloc | apply Kd.N_drewN | apply Kd.N_drew)); exact HO_9.out) (Kd.R_base ho30) hb); have n1_ := Aside0.mk (Kd.R_elder' (by (with_reducible repeat (first | apply Kd.R_alloc | apply Kd.R_drewN | apply Kd.R_drew)); exact HO123.out) (Kd.R_base ho30) hb); have n2_ := Aside0.mk (Kd.R_lower (Kd.R_new' (Kd.R_newM (M := fun k_ => (wb.heap.size ≤ k_)) ho30 (below_size (by repeat (first | (with_reducible first | exact HB.out | apply below_alloc | apply pw_below_drewN | apply below_drew1 | refine below_set ?_ GE101.out) | exact HB.out))) (fun k_ h_ => h_)) (Kd.R_lt (by (with_reducible repeat (first | apply Kd.R_alloc | apply Kd.R_drewN | apply Kd.R_drew)); exact HO123.out))) (below_size (by repeat (first | (with_reducible first | exact HB.out | apply below_alloc | apply pw_below_drewN | apply below_drew1 | refine below_set ?_ GE101.out) | exact HB.out)))); have n3_ := Aside0.mk (blk_below (g := W.heap.size) (o := .cells #[.int .i64 n.f0, .int .i64 n.f1.f0, .string n.f1.f1, .slice (some ad114) n.f2.length cc] 26 (0, 0)) (Cl.blk BK101.out) hb); have n4_ := Aside0.mk (below_step (by repeat (first | (with_reducible first | exact HB.out | apply below_alloc | apply pw_below_drewN | apply below_drew1 | refine below_set ?_ GE101.out) | exact HB.out)) hb); clear HO_9 HO123 BK101 HB; have HO_9 := n0_; have HO123 := n1_; have HO117 := n2_; have BK101 := n3_; have HB := n4_; clear n0_ n1_ n2_ n3_ n4_ hb ho30; refine hK.out _ _ ⟨(blk_cell BK101.out 0).trans rfl, (blk_cell BK101.out 1).trans rfl, (blk_cell BK101.out 2).trans rfl, (blk_cell BK101.out 3).trans rfl, ((HB.out.cell (World.block_lt_of_cell? wb _ hw114_0)).trans hw114_0), ((HB.out.cell (World.block_lt_of_cell? wb _ hw114_1)).trans hw114_1), ((HB.out.cell (World.block_lt_of_cell? wb _ hw114_2)).trans hw114_2), ((HB.out.cell (World.block_lt_of_cell? wb _ hw114_3)).trans hw114_3)⟩ (fun hHeld => ?_); clear hK K; refine norm_ (a' := ?_) ?_ ?_; rotate_left
       ·show Act.put _ (some 35) _ = _
        simp only [Act.put, List.setIfInBounds_toArray, List.set_cons_zero, List.set_cons_succ, i64_w, i32_w]; rfl
       refine one_ (i := 8) (N := some 37) #[true, true, true, true, true, true, true, true, true, true, true, false, true, false, false] rfl rfl (one_of HT_.out (by kernel_rfl)) (by decide) (fun K hK => ?_); refine Kd.R_append_rows_step (Kd.int .i64) (w0 := wb) wb.heap.size (by rfl) (.tmp 35) (.tmp 36) 30 3 (.int .i64 0) 8 rfl Try.underlying30 info3 rfl (by decide) (by omega) v116 y115 here _ _ _ (fun k_ => (wb.heap.size ≤ k_) ∧ some k_ ≠ (v122 : Value).ownBlock) (fun _ => False) rfl rfl ?aO ?aR (fun _ _ h => h) (fun _ h => h.elim) ?aF ?aB ?aS ?aL ?_
       (case aR => repeat (first | exact (Kd.C_below HR2.out HB.out) | (with_reducible refine Kd.C_alloc ?_ _) | (with_reducible refine Kd.C_drewN ?_ _) | (with_reducible refine Kd.C_drew ?_)))
       (case aB => exact (by repeat (first | (with_reducible first | exact HB.out | apply below_alloc | apply pw_below_drewN | apply below_drew1 | refine below_set ?_ GE101.out) | exact HB.out)))
       (case aF => exact (fun k_ hk => ⟨(Nat.le_trans (below_size (by repeat (first | (with_reducible first | exact HB.out | apply below_alloc | apply pw_below_drewN | apply below_drew1 | refine below_set ?_ GE101.out) | exact HB.out))) hk), Kd.fresh' (Kd.R_lt (by (with_reducible repeat (first | apply Kd.R_alloc | apply Kd.R_drewN | apply Kd.R_drew)); exact HO123.out)) k_ hk⟩))
       (case aO => exact (by (with_reducible repeat (first | apply Kd.R_alloc | apply Kd.R_drewN | apply Kd.R_drew)); exact Kd.R_mono HO117.out (fun _ hk => ⟨hk.1.1, hk.2⟩)))
       (case aS => exact (below_size (by repeat (first | (with_reducible first | exact HB.out | apply below_alloc | apply pw_below_drewN | apply below_drew1 | refine below_set ?_ GE101.out) | exact HB.out))))
       (case aL => have := LMc21.out; omega)
       intro v119 w31 ho hb hg hat; rw [← Ny118.out] at ho; have n0_ := Aside0.mk (Kd.N_afterv (ok := (fun k_ => (wb.heap.size ≤ k_) ∧ some k_ ≠ (v122 : Value).ownBlock ∧ k_ ≠ W.heap.size)) (by (with_reducible repeat (first | apply Kd.N_alloc | apply Kd.N_drewN | apply Kd.N_drew)); exact Kd.N_mono HO_9.out (fun _ hk => ⟨⟨hk.1.1.1, ⟨hk.1.2, hk.1.1.2⟩⟩, hk.2⟩)) hg hat); have n1_ := Aside0.mk (blk_grown (g := W.heap.size) (o := .cells #[.int .i64 n.f0, .int .i64 n.f1.f0, .string n.f1.f1, .slice (some ad114) n.f2.length cc] 26 (0, 0)) (Cl.blk BK101.out) hg (Kd.R_ne HO117.out BK101.out (by decide))); have n2_ := Aside0.mk (Kd.R_after (ok := (fun k_ => (wb.heap.size ≤ k_))) (by (with_reducible repeat (first | apply Kd.R_alloc | apply Kd.R_drewN | apply Kd.R_drew)); exact Kd.R_mono HO123.out (fun _ hk => ⟨hk.1.1, hk.2⟩)) hg hat); have n3_ := Aside0.mk (hb); have n4_ := Aside0.mk (ho); clear HO_9 BK101 HO123 HB HO117; have HO_9 := n0_; have BK101 := n1_; have HO123 := n2_; have HB := n3_; have HO120 := n4_; clear n0_ n1_ n2_ n3_ n4_ ho hb hg hat; refine hK.out _ _ ⟨(blk_cell BK101.out 0).trans rfl, (blk_cell BK101.out 1).trans rfl, (blk_cell BK101.out 2).trans rfl, (blk_cell BK101.out 3).trans rfl, ((HB.out.cell (World.block_lt_of_cell? wb _ hw114_0)).trans hw114_0), ((HB.out.cell (World.block_lt_of_cell? wb _ hw114_1)).trans hw114_1), ((HB.out.cell (World.block_lt_of_cell? wb _ hw114_2)).trans hw114_2), ((HB.out.cell (World.block_lt_of_cell? wb _ hw114_3)).trans hw114_3)⟩ (fun hHeld => ?_); clear hK K; refine norm_ (a' := ?_) ?_ ?_; rotate_left
       ·show Act.put _ (some 37) _ = _
        simp only [Act.put, List.setIfInBounds_toArray, List.set_cons_zero, List.set_cons_succ, i64_w, i32_w]; rfl
       exact norm_ (by simp only [putAll, Act.put, List.setIfInBounds_toArray, List.set_cons_zero, List.set_cons_succ]) (hCont (v116, v119, v122) _ ⟨hHeld, (by (with_reducible repeat (first | apply Kd.R_alloc | apply Kd.R_drewN | apply Kd.R_drew)); exact HO120.out), (by (with_reducible repeat (first | apply Kd.R_alloc | apply Kd.R_drewN | apply Kd.R_drew)); exact HO123.out), (by (with_reducible repeat (first | apply Kd.N_alloc | apply Kd.N_drewN | apply Kd.N_drew)); exact Kd.N_mono HO_9.out (fun _ hk => ⟨hk.1.1, ⟨hk.2, ⟨hk.1.2.1, hk.1.2.2⟩⟩⟩)), (Cl.blk BK101.out), (by repeat (first | (with_reducible first | exact HB.out | apply below_alloc | apply pw_below_drewN | apply below_drew1 | refine below_set ?_ GE101.out) | exact HB.out))⟩)
     rintro ⟨v116, v119, v122⟩ w32 ⟨hS_, h0_, h1_, h2_, h3_, h4_⟩
     have n0_ : Aside0 (Kd.R (Kd.int .i64) 3 w32 wb.heap.size (fun k_ => (wb.heap.size ≤ k_) ∧ some k_ ≠ (v122 : Value).ownBlock) v119 y118) := ⟨h0_⟩
     have n1_ : Aside0 (Kd.R (Kd.int .i64) 3 w32 wb.heap.size (fun k_ => (wb.heap.size ≤ k_) ∧ some k_ ≠ (v119 : Value).ownBlock) v122 y121) := ⟨h1_⟩
     have n2_ : Aside0 (Kd.N (Kd.slice 3 (Kd.int .i64)) 30 w32 wb.heap.size (fun k_ => (wb.heap.size ≤ k_) ∧ some k_ ≠ (v119 : Value).ownBlock ∧ some k_ ≠ (v122 : Value).ownBlock ∧ k_ ≠ W.heap.size) (.slice none 0 0) ([] : List (List Int))) := ⟨h2_⟩
     have n3_ : Aside0 (w32.heap[W.heap.size]? = some (.cells #[.int .i64 n.f0, .int .i64 n.f1.f0, .string n.f1.f1, .slice (some ad114) n.f2.length cc] 26 (0, 0))) := ⟨h3_⟩
     have n4_ : Aside0 (Below wb.heap.size wb w32) := ⟨h4_⟩
     clear HO_9 BK101 HB h0_ h1_ h2_ h3_ h4_; have HO120 := n0_; have HO123 := n1_; have HO_9 := n2_; have BK101 := n3_; have HB := n4_; clear n0_ n1_ n2_ n3_ n4_; have hHeld : w32.cell? ⟨W.heap.size, 0, none⟩ = some (.int .i64 n.f0) ∧ w32.cell? ⟨W.heap.size, 1, none⟩ = some (.int .i64 n.f1.f0) ∧ w32.cell? ⟨W.heap.size, 2, none⟩ = some (.string n.f1.f1) ∧ w32.cell? ⟨W.heap.size, 3, none⟩ = some (.slice (some ad114) n.f2.length cc) ∧ w32.cell? (ad114.add ((z).toNat * 4)) = some (.int .i64 ((rd_T26 n.f2 z).f0)) ∧ w32.cell? ⟨(ad114.add ((z).toNat * 4)).block, (ad114.add ((z).toNat * 4)).off + 1, none⟩ = some (.int .i64 ((rd_T26 n.f2 z).f1.f0)) ∧ w32.cell? ⟨(ad114.add ((z).toNat * 4)).block, (ad114.add ((z).toNat * 4)).off + 2, none⟩ = some (.string ((rd_T26 n.f2 z).f1.f1)) ∧ w32.cell? ⟨(ad114.add ((z).toNat * 4)).block, (ad114.add ((z).toNat * 4)).off + 3, none⟩ = some (.slice A114_3 ((rd_T26 n.f2 z).f2).length c114_3) := hS_; obtain ⟨Ao34, co34, eo34⟩ := Kd.R_slice HO123.out
     (first | subst eo34 | (injection eo34 with f1_ f2_ f3_; have f4_ := f1_.symm; have f5_ := f3_.symm; clear f1_ f2_ f3_; subst f4_; subst f5_))
     refine norm_ (a' := ?_) ?_ ?_; rotate_left
     ·simp only [putAll, Act.put, List.setIfInBounds_toArray, List.set_cons_zero, List.set_cons_succ]; rfl
     refine one_ (i := 11) (N := some 40) #[true, true, true, true, true, true, true, true, true, true, true, true, true, false, false] rfl rfl (one_of HT_.out (by kernel_rfl)) (by decide) (fun K hK => ?_); refine Kd.R_append_rows_step (Kd.int .i64) (w0 := wb) wb.heap.size (by rfl) (.tmp 37) (.tmp 39) 30 3 (.int .i64 0) 8 rfl Try.underlying30 info3 rfl (by decide) (by omega) v119 y118 y121 _ _ _ (fun k_ => (wb.heap.size ≤ k_) ∧ some k_ ≠ (.slice Ao34 y121.length co34 : Value).ownBlock) (fun _ => False) rfl rfl ?aO ?aR (fun _ _ h => h) (fun _ h => h.elim) ?aF ?aB ?aS ?aL ?_
     (case aR => repeat (first | exact (Kd.R_reads' HO123.out).2.2 | (with_reducible refine Kd.C_alloc ?_ _) | (with_reducible refine Kd.C_drewN ?_ _) | (with_reducible refine Kd.C_drew ?_)))
     (case aB => exact (by repeat (first | (with_reducible first | exact HB.out | apply below_alloc | apply pw_below_drewN | apply below_drew1 | refine below_set ?_ GE101.out) | exact HB.out)))
     (case aF => exact (fun k_ hk => ⟨(Nat.le_trans (below_size (by repeat (first | (with_reducible first | exact HB.out | apply below_alloc | apply pw_below_drewN | apply below_drew1 | refine below_set ?_ GE101.out) | exact HB.out))) hk), Kd.fresh' (Kd.R_lt (by (with_reducible repeat (first | apply Kd.R_alloc | apply Kd.R_drewN | apply Kd.R_drew)); exact HO123.out)) k_ hk⟩))
     (case aO => exact (by (with_reducible repeat (first | apply Kd.R_alloc | apply Kd.R_drewN | apply Kd.R_drew)); exact HO120.out))
     (case aS => exact (below_size (by repeat (first | (with_reducible first | exact HB.out | apply below_alloc | apply pw_below_drewN | apply below_drew1 | refine below_set ?_ GE101.out) | exact HB.out))))
     (case aL => have := LMc22.out; omega)
     intro v125 w33 ho hb hg hat; rw [← Ny124.out] at ho; have n0_ := Aside0.mk (Kd.N_afterv (ok := (fun k_ => (wb.heap.size ≤ k_) ∧ some k_ ≠ (.slice Ao34 y121.length co34 : Value).ownBlock ∧ k_ ≠ W.heap.size)) (by (with_reducible repeat (first | apply Kd.N_alloc | apply Kd.N_drewN | apply Kd.N_drew)); exact Kd.N_mono HO_9.out (fun _ hk => ⟨⟨hk.1, ⟨hk.2.2.1, hk.2.2.2⟩⟩, hk.2.1⟩)) hg hat); have n1_ := Aside0.mk (blk_grown (g := W.heap.size) (o := .cells #[.int .i64 n.f0, .int .i64 n.f1.f0, .string n.f1.f1, .slice (some ad114) n.f2.length cc] 26 (0, 0)) (Cl.blk BK101.out) hg (Kd.R_ne HO120.out BK101.out (by decide))); have n2_ := Aside0.mk (Kd.R_after (ok := (fun k_ => (wb.heap.size ≤ k_))) (by (with_reducible repeat (first | apply Kd.R_alloc | apply Kd.R_drewN | apply Kd.R_drew)); exact HO123.out) hg hat); have n3_ := Aside0.mk (hb); have n4_ := Aside0.mk (ho); clear HO_9 BK101 HO123 HB HO120; have HO_9 := n0_; have BK101 := n1_; have HO123 := n2_; have HB := n3_; have HO126 := n4_; clear n0_ n1_ n2_ n3_ n4_ ho hb hg hat; obtain ⟨Ao35, co35, eo35⟩ := Kd.R_slice HO126.out
     (first | subst eo35 | (injection eo35 with f1_ f2_ f3_; have f4_ := f1_.symm; have f5_ := f3_.symm; clear f1_ f2_ f3_; subst f4_; subst f5_))
     refine hK.out _ _ ⟨(blk_cell BK101.out 0).trans rfl, (blk_cell BK101.out 1).trans rfl, (blk_cell BK101.out 2).trans rfl, (blk_cell BK101.out 3).trans rfl, ((HB.out.cell (World.block_lt_of_cell? wb _ hw114_0)).trans hw114_0), ((HB.out.cell (World.block_lt_of_cell? wb _ hw114_1)).trans hw114_1), ((HB.out.cell (World.block_lt_of_cell? wb _ hw114_2)).trans hw114_2), ((HB.out.cell (World.block_lt_of_cell? wb _ hw114_3)).trans hw114_3)⟩ (fun hHeld => ?_); clear hK K; refine norm_ (a' := ?_) ?_ ?_; rotate_left
     ·show Act.put _ (some 40) _ = _
      simp only [Act.put, List.setIfInBounds_toArray, List.set_cons_zero, List.set_cons_succ, i64_w, i32_w]; rfl
     refine one_ (i := 13) (N := some 42) #[true, true, true, true, true, true, true, true, true, true, true, true, true, true, false] rfl rfl (one_of HT_.out (by kernel_rfl)) (by decide) (fun K hK => ?_); refine goes_ Try.func60 (by kernel_rfl) rfl #[.agg #[.int .i64 ((rd_T26 n.f2 z).f0), .int .i64 ((rd_T26 n.f2 z).f1.f0), .string ((rd_T26 n.f2 z).f1.f1), .slice A114_3 ((rd_T26 n.f2 z).f2).length c114_3], .int .i64 kind, .slice Ao35 y124.length co35, .slice Ao25 o.length co25] (by rfl) rfl rfl (by (try simp only [List.map_toArray, List.map_cons, List.map_nil]); first | done | rfl | (simp only [List.length_drop, List.length_take]; rfl)) ?_; have hih := HIH.out; unfold marginaliaref05_All.Holds at hih
     with_reducible refine (hih (rd_T26 n.f2 z) _ _ y124 _ o _ o' _ ?side1 ?side2 ?side3 ?side4 ?side5 ?side6).mono ?_
     (case side1 => exact HC114_3.out)
     (case side2 => exact HR114_3.out)
     (case side3 => exact Kd.R_mono (Kd.R_lower (by (with_reducible repeat (first | apply Kd.R_alloc | apply Kd.R_drewN | apply Kd.R_drew)); exact HO126.out) HB0.out.size) (fun _ _ => trivial))
     (case side4 => exact (by (with_reducible repeat (first | apply Kd.R_alloc | apply Kd.R_drewN | apply Kd.R_drew)); exact Kd.R_below HRb.out HB.out))
     (case side5 => exact HB0.out.trans (HB.out.mono HB0.out.size))
     (case side6 => rw [HY.out]; exact HO'.out)
     rintro e w36 ⟨v128, rfl, hr6, hb6, hf6⟩; refine ⟨_, rfl, ?_⟩; have BK6 := Aside0.mk (hf6.blk BK101.out (Kd.R_ne (Kd.R_below HRb.out HB.out) BK101.out (by decide))); have HR6 := Aside0.mk hr6; have HB6 := Aside0.mk hb6; have HF6 := Aside0.mk (marginaliaref05_Leaves.Fr.trans HFb.out (marginaliaref05_Leaves.Fr.trans (marginaliaref05_All.fr_below HB.out) hf6)); clear hr6 hb6 hf6; refine hK.out _ _ ⟨(blk_cell BK6.out 0).trans rfl, (blk_cell BK6.out 1).trans rfl, (blk_cell BK6.out 2).trans rfl, (blk_cell BK6.out 3).trans rfl, ((HB6.out.cell (World.block_lt_of_cell? w0 _ hu114_0)).trans hu114_0), ((HB6.out.cell (World.block_lt_of_cell? w0 _ hu114_1)).trans hu114_1), ((HB6.out.cell (World.block_lt_of_cell? w0 _ hu114_2)).trans hu114_2), ((HB6.out.cell (World.block_lt_of_cell? w0 _ hu114_3)).trans hu114_3)⟩ (fun hHeld => ?_); clear hK K; refine norm_ (a' := ?_) ?_ ?_; rotate_left
     ·show Act.put _ (some 42) _ = _
      simp only [Act.put, List.setIfInBounds_toArray, List.set_cons_zero, List.set_cons_succ, i64_w, i32_w]; rfl
     refine pure_ (i := 14) (N := some 9) (v := ?_) (a' := ?_) #[true, true, true, true, true, true, true, true, true, true, true, true, true, true, true] rfl rfl (any_of HT_.out (by kernel_rfl)) (fun _ _ _ h => h) (Or.inl ⟨by rfl, ?_⟩) ?_ ?_; rotate_left
     ·intro w'; go_simp; with_reducible rfl
     rotate_left
     ·simp only [Act.put, List.setIfInBounds_toArray, List.set_cons_zero, List.set_cons_succ, i64_w, i32_w]; rfl
     refine done_ (done_of HT_.out (by kernel_rfl)) ?_
     try go_wp2
     go_roundg kq'
     case measure => omega
     case rel => exact ⟨i + 1, wrap64 (z + 1), o', rfl, ⟨by rw [HZ.out, show wrap64 ((i : Int) + 1) = (i : Int) + 1 by unfold wrap64; omega]; omega⟩, ⟨by have := HK.out; omega⟩, HH2, HR6, HB6, HF6⟩
    ·have hin : i = n.f2.length := (by have := HK.out; omega)
     have c19b0 : decide (z < (n.f2.length : Int)) = false := decide_eq_false (by have := HZ.out; omega); have H := HH.out; rw [List.drop_of_length_le (by omega)] at H; simp only [tree_All.kids, Option.some.injEq] at H; subst H; go_wp2_with fail; go_ret; exact ⟨_, rfl, HR.out, HB.out, HF0.out HF.out⟩
set_option maxHeartbeats 8000000 in
set_option maxRecDepth 100000 in
theorem marginaliaref05_All.calls (k : Nat) (a0_0 : Int) (a0_1 : Int) (a0_2 : ByteArray) (A0_3 : Option Addr) (c0_3 : Nat) (l0_3 : List (S26)) (a1 : Int) (r : List (List Int)) (w : World) (hr0_3 : Kd.C k26 w A0_3 l0_3.length l0_3) (hc0_3 : l0_3.length ≤ c0_3) (h : marginaliaref05_All.f k a0_0 a0_1 a0_2 l0_3 a1 = some r) :
  Calls Try.prog 25 #[.agg #[.int .i64 a0_0, .int .i64 a0_1, .string a0_2, .slice A0_3 l0_3.length c0_3], .int .i64 a1] w fun e w' => ∃ v0_ : Value, e = .returned (v0_) ∧ Kd.R (Kd.slice 3 (Kd.int .i64)) 30 w' w.heap.size (fun _ => True) v0_ r ∧ Below w.heap.size w w' := by
 have hu26 := Try.underlying26; unfold marginaliaref05_All.f at h
 obtain ⟨w1, hw1⟩ : ∃ w1, w1 = w.alloc (.cells #[.int .i64 a0_0, .int .i64 a0_1, .string a0_2, .slice A0_3 l0_3.length c0_3] 26) := ⟨_, rfl⟩
 have BK : Aside0 (w1.heap[w.heap.size]? = some (.cells #[.int .i64 a0_0, .int .i64 a0_1, .string a0_2, .slice A0_3 l0_3.length c0_3] 26 (0, 0))) := ⟨by rw [hw1]; exact blk_new _ _⟩
 have HCall := Aside0.mk (marginaliaref05_All.ok w a1 k ⟨a0_0, ⟨a0_1, a0_2⟩, l0_3⟩ A0_3 c0_3 [] (.slice none 0 0) [] (.slice none 0 0) r w1 hc0_3 hr0_3 (Kd.R_nil _ _ _ _ _) (Kd.R_nil _ _ _ _ _) (by rw [hw1]; exact below_alloc (Below.refl _ _) _) h); have HW1 := Aside0.mk hw1; clear hr0_3 hw1 h; go_enter Try.func25, Try.ntmps25
 go_upto_region 1 with fail
 rw [← HW1.out]; obtain ⟨p0, p1, p2, p3⟩ := zc4 BK
 go_wp2_with (go_at_call 60; refine HCall.out.mono ?_; rintro e w9 ⟨v9, rfl, hr9, hb9, hf9⟩; have HR9 := Aside0.mk hr9; have HB9 := Aside0.mk hb9; clear hr9 hb9 hf9)
 go_ret; exact ⟨_, rfl, HR9.out, HB9.out⟩
end Go.Proofs.Ytnafnieocpkkhaa.P

