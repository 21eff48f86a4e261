/- What the claim's row needs of the seat's texts, part 4: put together by a program of this session (declarations that no text of the claim names are left out). -/

import Derived.Test.YtnafnieocpkkhaaQ3
namespace Go.Proofs.Ytnafnieocpkkhaa.P
open Go.RowKit Go.Proofs.YtnafnieocpkkhaaW.PrintWords Go.Proofs.YtnafnieocpkkhaaW.PrintLast Go.Proofs.YtnafnieocpkkhaaW.PrintMore
attribute [local go_sem] max2_int min2_int max_two min_two max_three min_three max_four min_four
set_option linter.unusedVariables false
set_option linter.unusedSimpArgs false

theorem zi3L {α β : Type} [BEq β] [LawfulBEq β] {x y : β} [Decidable (x = y)] {a : Option α} {r : α} (h : (if x = y then a else none) = some r) : (x == y) = true ∧ (x != y) = false ∧ a = some r := ⟨beq_iff_eq.mpr (zi h).1, bne_eq_false_iff_eq.mpr (zi h).1, (zi h).2⟩
/-! ### marginalialaw05_TreeLeaves: function 12 -/
mutual
def marginalialaw05_TreeLeaves.l0 : Nat → List Int → ByteArray → List (S23) → Int → ByteArray → Int → Int → Int → ByteArray → List (S26) → Option (Bool)
 | 0, _, _, _, _, _, _, _, _, _, _ => none
 | k + 1, x1, x6, x8, x9, x10, x11, x301000, x301001, x301002, x301003 => if x11 < (x8.length : Int) then (if 0 ≤ x11 then (if x10.size + ((rd_T23 x8 x11).f1).size ≤ 9223372036854775807 then (marginalialaw05_TreeLeaves.l0 k x1 x6 x8 x9 (x10 ++ ((rd_T23 x8 x11).f1)) (wrap64 (x11 + 1)) x301000 x301001 x301002 x301003) else (none)) else (none)) else (if x9 = 0 then (if x10.toList = x6.toList then ((marginalialaw05_short.f x1).bind fun t310 => ((marginalialaw05_position.f k x301000 x301001 x301002 x301003 t310).bind fun t313 => ((tree_At.f k x301000 x301001 x301002 x301003 t313).bind fun bt316 => ((tree_Span.f k x301000 x301001 x301002 x301003 t313).bind fun bt324 => (if bt316.2.2.2.2 = 0 then (if bt324.2.2 = 0 then (marginalialaw05_TreeLeaves.l1 k t313 bt324.1 0 x301000 x301001 x301002 x301003 bt316.1 bt316.2.1 bt316.2.2.1 bt316.2.2.2.1 bt324.1 bt324.2.1) else (none)) else (none)))))) else (none)) else (none))
def marginalialaw05_TreeLeaves.l1 : Nat → List Int → Int → Int → Int → Int → ByteArray → List (S26) → Int → Int → ByteArray → List (S26) → Int → Int → Option (Bool)
 | 0, _, _, _, _, _, _, _, _, _, _, _, _, _ => none
 | k + 1, x12, x17, x18, x301000, x301001, x301002, x301003, x324000, x324001, x324002, x324003, x328000, x328001 => if x18 < (x324003.length : Int) then ((some (([] : List Int) : List Int)).bind fun y328 => (if y328.length + x12.length < 17592186044416 then ((some (y328 ++ x12 : List Int)).bind fun y331 => ((some (([x18] : List Int) : List Int)).bind fun y334 => (if y331.length + y334.length < 17592186044416 then ((tree_Span.f k x301000 x301001 x301002 x301003 (y331 ++ y334)).bind fun bt340 => (if bt340.2.2 = 0 then (if bt340.1 = x17 then (if bt340.2.1 < x17 then (none) else (marginalialaw05_TreeLeaves.l1 k x12 bt340.2.1 (wrap64 (x18 + 1)) x301000 x301001 x301002 x301003 x324000 x324001 x324002 x324003 x328000 x328001)) else (none)) else (none))) else (none)))) else (none))) else (if (x324003.length : Int) = 0 then ((marginalialaw05_alive.f).bind fun t344 => (some t344)) else (if x17 = x328001 then ((marginalialaw05_alive.f).bind fun t345 => (some t345)) else (none)))
end
def marginalialaw05_TreeLeaves.f (k : Nat) (a0_0 : Int) (a0_1 : Int) (a0_2 : ByteArray) (l0_3 : List (S26)) (l1 : List Int) : Option (Bool) := (marginalialaw05_cut.f k a0_0 a0_1 a0_2 l0_3).bind fun bt294 => ((tree_Text.f k bt294.1 bt294.2.1 bt294.2.2.1 bt294.2.2.2).bind fun bt301 => (if bt301.2 = 0 then ((tree_Leaves.f k bt294.1 bt294.2.1 bt294.2.2.1 bt294.2.2.2).bind fun bt305 => (marginalialaw05_TreeLeaves.l0 k l1 bt301.1 bt305.1 bt305.2 (⟨#[]⟩ : ByteArray) 0 bt294.1 bt294.2.1 bt294.2.2.1 bt294.2.2.2)) else ((tree_IsFormed.f k bt294.1 bt294.2.1 bt294.2.2.1 bt294.2.2.2).bind fun t303 => (if t303 = true then (none) else ((marginalialaw05_alive.f).bind fun t304 => (some t304))))))
def marginalialaw05_TreeLeaves.T22 : Bool × List (List Nat × List Nat) := (true, [([], []), ([], []), ([], []), ([1, 2], [1, 2]), ([], []), ([4], [4]), ([3, 5, 3], [3, 5]), ([0, 6, 6], [0, 6]), ([7], [7]), ([8], [8]), ([8], [8]), ([], []), ([11, 9, 7, 0, 1, 2, 3, 4, 5, 6, 7, 8, 9, 11], [9, 11]), ([10, 12, 0, 1, 2, 3, 4, 5, 6, 7, 8, 9, 10, 11, 12], [10])])
def marginalialaw05_TreeLeaves.B22 : List Nat := [0, 0, 0, 6, 0, 16, 62, 127, 255, 511, 511, 0, 3071, 8191]
theorem marginalialaw05_TreeLeaves.tab22 : rtab .any (opsOf Try.f12 22) = marginalialaw05_TreeLeaves.T22 := by kernel_rfl
theorem marginalialaw05_TreeLeaves.bits22 : waitsOk marginalialaw05_TreeLeaves.T22.2 marginalialaw05_TreeLeaves.B22 = true := by kernel_rfl
set_option maxHeartbeats 8000000 in
set_option maxRecDepth 100000 in
theorem marginalialaw05_TreeLeaves.calls (k : Nat) (a0_0 : Int) (a0_1 : Int) (a0_2 : ByteArray) (A0_3 : Option Addr) (c0_3 : Nat) (l0_3 : List (S26)) (A1 : Option Addr) (c1 : Nat) (l1 : List Int) (r : Bool) (w : World) (hr0_3 : Kd.C k26 w A0_3 l0_3.length l0_3) (hc0_3 : l0_3.length ≤ c0_3) (hr1 : Kd.C (Kd.int .i64) w A1 l1.length l1) (hc1 : l1.length ≤ c1) (h : marginalialaw05_TreeLeaves.f k a0_0 a0_1 a0_2 l0_3 l1 = some r) :
  Calls Try.prog 12 #[.agg #[.int .i64 a0_0, .int .i64 a0_1, .string a0_2, .slice A0_3 l0_3.length c0_3], .slice A1 l1.length c1] w fun e w' => e = .returned (.bool r) ∧ Below w.heap.size w w' := by
 have hu26 := Try.underlying26; have hu28 := Try.underlying28; have HR0_3 := Aside0.mk hr0_3; have HC0_3 := Aside0.mk hc0_3; clear hr0_3 hc0_3; have HR1 := Aside0.mk hr1; have HC1 := Aside0.mk hc1; clear hr1 hc1; have HB := Aside0.mk (Below.refl w.heap.size w); have H : ((marginalialaw05_cut.f k a0_0 a0_1 a0_2 l0_3).bind fun bt294 => ((tree_Text.f k bt294.1 bt294.2.1 bt294.2.2.1 bt294.2.2.2).bind fun bt301 => (if bt301.2 = 0 then ((tree_Leaves.f k bt294.1 bt294.2.1 bt294.2.2.1 bt294.2.2.2).bind fun bt305 => (marginalialaw05_TreeLeaves.l0 k l1 bt301.1 bt305.1 bt305.2 (⟨#[]⟩ : ByteArray) 0 bt294.1 bt294.2.1 bt294.2.2.1 bt294.2.2.2)) else ((tree_IsFormed.f k bt294.1 bt294.2.1 bt294.2.2.1 bt294.2.2.2).bind fun t303 => (if t303 = true then (none) else ((marginalialaw05_alive.f).bind fun t304 => (some t304))))))) = some r := h; clear h; replace H := Option.bind_eq_some_iff.mp H; obtain ⟨⟨t294, t295, t296, t297⟩, A30, H⟩ := H; replace H : ((tree_Text.f k t294 t295 t296 t297).bind fun bt301 => (if bt301.2 = 0 then ((tree_Leaves.f k t294 t295 t296 t297).bind fun bt305 => (marginalialaw05_TreeLeaves.l0 k l1 bt301.1 bt305.1 bt305.2 (⟨#[]⟩ : ByteArray) 0 t294 t295 t296 t297)) else ((tree_IsFormed.f k t294 t295 t296 t297).bind fun t303 => (if t303 = true then (none) else ((marginalialaw05_alive.f).bind fun t304 => (some t304)))))) = some r := H; have A3 := Aside0.mk A30; clear A30; replace H := Option.bind_eq_some_iff.mp H; obtain ⟨⟨t301, t302⟩, A40, H⟩ := H; replace H : (if t302 = 0 then ((tree_Leaves.f k t294 t295 t296 t297).bind fun bt305 => (marginalialaw05_TreeLeaves.l0 k l1 t301 bt305.1 bt305.2 (⟨#[]⟩ : ByteArray) 0 t294 t295 t296 t297)) else ((tree_IsFormed.f k t294 t295 t296 t297).bind fun t303 => (if t303 = true then (none) else ((marginalialaw05_alive.f).bind fun t304 => (some t304))))) = some r := H; have A4 := Aside0.mk A40; clear A40; by_cases c5 : t302 = 0
 ·rw [if_pos c5] at H; have c5b0 : (t302 == 0) = true := beq_iff_eq.mpr c5; have c5b1 : (t302 != 0) = false := bne_eq_false_iff_eq.mpr c5; clear c5; replace H := Option.bind_eq_some_iff.mp H; obtain ⟨⟨t305, t308⟩, A60, H⟩ := H; replace H : (marginalialaw05_TreeLeaves.l0 k l1 t301 t305 t308 (⟨#[]⟩ : ByteArray) 0 t294 t295 t296 t297) = some r := H; have A6 := Aside0.mk A60; clear A60; have H' := Aside0.mk H; clear H; go_enter Try.func12, Try.ntmps12
  go_wp2_with (first | ((with_reducible refine zD 2 rfl ?_); refine zx 2 #[.int .i64 a0_0, .int .i64 a0_1, .string a0_2, .slice A0_3 l0_3.length c0_3] 26 ?_; intro gb293 hg w7 hbox hb; have BK293 := Aside0.mk (hbox); have GW293 := (zq hg : Aside0 (w.heap.size ≤ gb293)); have GE293 := GW293; replace HB := (zB hb); clear hb hbox hg; obtain ⟨hcz8_0, hcz8_1, hcz8_2, hcz8_3⟩ := zc4 BK293; obtain ⟨hfz8_0, hfz8_1, hfz8_2, hfz8_3⟩ := zz4 BK293) | ((with_reducible refine zG 15 rfl ?_); refine zg 22 Try.func15 ((marginalialaw05_cut.calls k a0_0 a0_1 a0_2 _ _ l0_3 t294 t295 t296 t297 _ ?side1 ?side2 A3.out).mono ?_); (case side1 => exact zC HR0_3); (case side2 => exact HC0_3.out); rintro e w9 ⟨v298, rfl, ho0, hb⟩; refine ⟨_, rfl, ?_⟩; have HO299 := Aside0.mk (Kd.R_lower (Kd.R_newB ho0 (g := gb293) (o := .cells #[.int .i64 a0_0, .int .i64 a0_1, .string a0_2, .slice A0_3 l0_3.length c0_3] 26 (0, 0)) (Cl.blk BK293.out)) (below_size zb)); replace BK293 := (zK BK293 hb); replace HB := (zB hb); (try clear hb); (try clear hb2); (try clear hk); (try clear hi); (try clear ho0)) | ((with_reducible refine zD 5 rfl ?_); refine zx 5 #[.int .i64 0, .int .i64 0, .string (⟨#[]⟩ : ByteArray), .slice none 0 0] 26 ?_; intro gb300 hg w10 hbox hb; replace HO299 := Aside0.mk (Kd.R_below (Kd.R_elderB (zR HO299) gb300 (Nat.le_of_eq hg.symm)) hb); have BK300 := Aside0.mk (hbox); have GW300 := (zq hg : Aside0 (w.heap.size ≤ gb300)); have GE300 := GW300; replace HB := (zB hb); have NB293_300 := (zl hg BK293 : Aside0 (gb293 ≠ gb300)); have NB300_293 := (zl' hg BK293 : Aside0 (gb300 ≠ gb293)); replace BK293 := (zK BK293 hb); clear hb hbox hg; have hnb11 := NB300_293.out; have hnc11 := NB293_300.out; obtain ⟨hcz12_0, hcz12_1, hcz12_2, hcz12_3⟩ := zc4 BK300; obtain ⟨hfz12_0, hfz12_1, hfz12_2, hfz12_3⟩ := zz4 BK300; obtain ⟨Ao13, co13, eo13⟩ := Kd.R_slice HO299.out; subst eo13) | ((with_reducible refine zG 26 rfl ?_); refine zg 25 Try.func26 ((tree_Text.calls k t294 t295 t296 _ _ t297 t301 t302 _ ?side1 ?side2 A4.out).mono ?_); (case side1 => refine (Kd.R_reads' (e := 26) (base := w.heap.size) (ok := fun k_ => ((True ∧ k_ ≠ gb293) ∧ k_ ≠ gb300)) (n := t297.length) (c := co13) ?_).2.2; exact (by (with_reducible repeat (first | apply Kd.R_alloc | apply Kd.R_drewN | apply Kd.R_drew)); exact (Kd.R_mono (zF4 gb300 (Kd.R_mono HO299.out (fun k_ hk => (⟨hk, hk.2⟩ : _ ∧ k_ ≠ gb300))) (fun _ hk => hk.2)) (fun _ h_ => h_.1)))); (case side2 => exact (Kd.R_reads' HO299.out).2.1); rintro e w14 ⟨rfl, hb⟩; refine ⟨_, rfl, ?_⟩; replace HO299 := Aside0.mk (Kd.R_below (by (with_reducible repeat (first | apply Kd.R_alloc | apply Kd.R_drewN | apply Kd.R_drew)); exact (Kd.R_mono (zF4 gb300 (Kd.R_mono HO299.out (fun k_ hk => (⟨hk, hk.2⟩ : _ ∧ k_ ≠ gb300))) (fun _ hk => hk.2)) (fun _ h_ => h_.1))) hb); replace BK293 := (zw2 gb293 #[.int .i64 a0_0, .int .i64 a0_1, .string a0_2, .slice A0_3 l0_3.length c0_3] 26 hb); replace BK300 := (zw2 gb300 #[.int .i64 t294, .int .i64 t295, .string t296, .slice Ao13 t297.length co13] 26 hb); replace HB := (zB hb); (try clear hb); (try clear hb2); (try clear hk); (try clear hi); obtain ⟨hcz15_0, hcz15_1, hcz15_2, hcz15_3⟩ := zc4 BK300; obtain ⟨hfz15_0, hfz15_1, hfz15_2, hfz15_3⟩ := zz4 BK300) | ((with_reducible refine zG 28 rfl ?_); refine zg 38 Try.func28 ((tree_Leaves.calls k t294 t295 t296 _ _ t297 t305 t308 _ ?side1 ?side2 A6.out).mono ?_); (case side1 => exact zE' (Kd.R_reads' HO299.out).2.2); (case side2 => exact (Kd.R_reads' HO299.out).2.1); rintro e w16 ⟨v306, rfl, ho0, hb⟩; refine ⟨_, rfl, ?_⟩; replace HO299 := (zRb HO299 hb); have HO307 := Aside0.mk (Kd.R_lower ho0 (below_size zb)); replace BK293 := (zK BK293 hb); replace BK300 := (zK BK300 hb); replace HB := (zB hb); (try clear hb); (try clear hb2); (try clear hk); (try clear hi); (try clear ho0)))
  go_loopg [10, 11] k (fun kq v10 v11 w' => ∃ (x10_1 : ByteArray) (x11_1 : Int), v10 = .string x10_1 ∧ v11 = .int .i64 x11_1 ∧ Aside0 (marginalialaw05_TreeLeaves.l0 kq l1 t301 t305 t308 x10_1 x11_1 t294 t295 t296 t297 = some r) ∧ Aside0 (kq ≤ k) ∧ Aside0 (Kd.R k23 23 w' w.heap.size (fun _ => True) v306 t305) ∧ Aside0 (Kd.R k26 26 w' w.heap.size (fun k_ => k_ ≠ gb293 ∧ k_ ≠ gb300) (.slice Ao13 t297.length co13) t297) ∧ Aside0 (w'.heap[gb293]? = some (.cells #[.int .i64 a0_0, .int .i64 a0_1, .string a0_2, (.slice A0_3 l0_3.length c0_3)] 26 (0, 0))) ∧ Aside0 (w'.heap[gb300]? = some (.cells #[.int .i64 t294, .int .i64 t295, .string t296, (.slice Ao13 t297.length co13)] 26 (0, 0))) ∧ Aside0 (Below w.heap.size w w'))
  case atStart => exact ⟨((⟨#[]⟩ : ByteArray)), (0), zs, zs, H', ⟨Nat.le_refl _⟩, ⟨by (with_reducible repeat (first | apply Kd.R_alloc | apply Kd.R_drewN | apply Kd.R_drew)); exact HO307.out⟩, ⟨by (with_reducible repeat (first | apply Kd.R_alloc | apply Kd.R_drewN | apply Kd.R_drew)); exact Kd.R_mono HO299.out (fun _ hk => ⟨hk.1.2, hk.2⟩)⟩, (zA BK293), (zA BK300), ⟨zb⟩⟩
  case round =>
   clear H'; obtain ⟨x10_1, x11_1, rfl, rfl, HA, HK1, HO_8, HO_301003, BK293, BK300, HB⟩ := hrel
   cases gk with
   | zero => exact absurd HA.out (by simp [marginalialaw05_TreeLeaves.l0])
   | succ k1 =>
    have H := HA.out; clear HA; simp only [marginalialaw05_TreeLeaves.l0] at H; by_cases c17 : x11_1 < (t305.length : Int)
    ·rw [if_pos c17] at H; have c17b0 := decide_eq_true c17; clear c17; replace H := zi1 H; obtain ⟨c18b0, H⟩ := H; replace H := zi H; obtain ⟨c19, H⟩ := H; have c19b0 := eq_true c19; have c19b1 : decide (x10_1.size + ((rd_T23 t305 x11_1).f1).size ≤ 9223372036854775807) = true := decide_eq_true c19
     try have c19b2 : (9223372036854775807 < x10_1.size + ((rd_T23 t305 x11_1).f1).size) = False := eq_false (Nat.not_lt.2 c19)
     have H' := Aside0.mk H; clear H; obtain ⟨Ao20, co20, eo20⟩ := Kd.R_slice HO_8.out; subst eo20; have p309 : 0 ≤ (x11_1 : Int) := zt; have q309 : x11_1 < (t305.length : Int) := zt; obtain ⟨ad309, e309, hx309_0, hx309_1⟩ := at_T23 (Kd.R_reads' HO_8.out).2.2 x11_1 p309 q309
     cases e309
     replace p309 := eq_true p309; replace q309 := eq_true q309; go_wp2
     go_roundg k1
     case measure => have := HK1.out; omega
     case rel => exact ⟨(x10_1 ++ ((rd_T23 t305 x11_1).f1)), (wrap64 (x11_1 + 1)), zs, zs, H', zk, ⟨by (with_reducible repeat (first | apply Kd.R_alloc | apply Kd.R_drewN | apply Kd.R_drew)); exact HO_8.out⟩, ⟨by (with_reducible repeat (first | apply Kd.R_alloc | apply Kd.R_drewN | apply Kd.R_drew)); exact HO_301003.out⟩, (zA BK293), (zA BK300), ⟨zb⟩⟩
    ·rw [if_neg c17] at H; have c17b0 := decide_eq_false c17; clear c17; replace H := zi3 H; obtain ⟨c21b0, c21b1, H⟩ := H; replace H := zi3L H; obtain ⟨c22b0, c22b1, H⟩ := H; replace H := zo H; obtain ⟨t310, A23, H⟩ := H; replace H := zo H; obtain ⟨t313, A24, H⟩ := H; replace H := Option.bind_eq_some_iff.mp H; obtain ⟨⟨t316, t317, t318, t319, t322⟩, A250, H⟩ := H; replace H : ((tree_Span.f k1 t294 t295 t296 t297 t313).bind fun bt324 => (if t322 = 0 then (if bt324.2.2 = 0 then (marginalialaw05_TreeLeaves.l1 k1 t313 bt324.1 0 t294 t295 t296 t297 t316 t317 t318 t319 bt324.1 bt324.2.1) else (none)) else (none))) = some r := H; have A25 := Aside0.mk A250; clear A250; replace H := Option.bind_eq_some_iff.mp H; obtain ⟨⟨t324, t325, t326⟩, A260, H⟩ := H; replace H : (if t322 = 0 then (if t326 = 0 then (marginalialaw05_TreeLeaves.l1 k1 t313 t324 0 t294 t295 t296 t297 t316 t317 t318 t319 t324 t325) else (none)) else (none)) = some r := H; have A26 := Aside0.mk A260; clear A260; replace H := zi3 H; obtain ⟨c27b0, c27b1, H⟩ := H; replace H := zi3 H; obtain ⟨c28b0, c28b1, H⟩ := H; have H' := Aside0.mk H; clear H; obtain ⟨Ao29, co29, eo29⟩ := Kd.R_slice HO_8.out; subst eo29
     try go_wp2
     replace HO_8 := Aside0.mk (Kd.R_drew HO_8.out); replace HO_301003 := Aside0.mk (Kd.R_drew HO_301003.out); replace BK293 := Aside0.mk (blk_drew BK293.out); replace BK300 := Aside0.mk (blk_drew BK300.out); replace HB := Aside0.mk (below_drew1 HB.out); refine start_ (n := 5) (S := fun w' => w'.cell? ⟨gb300, 0, none⟩ = some (.int .i64 t294) ∧ w'.cell? ⟨gb300, 1, none⟩ = some (.int .i64 t295) ∧ w'.cell? ⟨gb300, 2, none⟩ = some (.string t296) ∧ w'.cell? ⟨gb300, 3, none⟩ = some (.slice Ao13 t297.length co13)) (ds := []) #[false, false, false, false, false] (by kernel_rfl) rfl rfl ⟨(blk_cell BK300.out 0).trans rfl, (blk_cell BK300.out 1).trans rfl, (blk_cell BK300.out 2).trans rfl, (blk_cell BK300.out 3).trans rfl⟩ (fun hHeld => ?_); generalize wr.drew = w30 at HO_8 HO_301003 BK293 BK300 HB hHeld ⊢; refine pure_ (i := 1) (N := some 62) (v := ?_) (a' := ?_) #[false, true, false, false, false] rfl rfl (by kernel_rfl) (fun _ _ _ h => h) (Or.inl ⟨by rfl, ?_⟩) ?_ ?_; rotate_left
     ·intro w'; go_simp; with_reducible rfl
     rotate_left
     ·simp only [Act.put, List.setIfInBounds_toArray, List.set_cons_zero, List.set_cons_succ, i64_w, i32_w]; rfl
     refine take_ (i := 0) (N := some 61) (v := ?_) (a' := ?_) #[true, true, false, false, false] rfl rfl (by kernel_rfl) (fun _ _ _ h => h) (Or.inl ⟨by rfl, ?_⟩) hHeld ?_ ?_; rotate_left
     ·rintro w' ⟨s0, s1, s2, s3⟩; go_simp; with_reducible rfl
     rotate_left
     ·simp only [Act.put, List.setIfInBounds_toArray, List.set_cons_zero, List.set_cons_succ, i64_w, i32_w]; rfl
     refine one_ (i := 2) (N := some 63) #[true, true, true, false, false] rfl rfl (by kernel_rfl) (by decide) (fun K hK => ?_); refine goes_ Try.func45 (by kernel_rfl) rfl #[.slice A1 l1.length c1] (by rfl) rfl rfl (by (try simp only [List.map_toArray, List.map_cons, List.map_nil]); first | done | rfl | (simp only [List.length_drop, List.length_take]; rfl)) ?_
     with_reducible refine (marginalialaw05_short.calls _ _ l1 t310 _ ?side1 ?side2 A23.out).mono ?_
     (case side1 => exact zC HR1)
     (case side2 => exact HC1.out)
     rintro e w31 ⟨v311, rfl, ho0, hb⟩; refine ⟨_, rfl, ?_⟩
     replace HO_8 := (zRb HO_8 hb)
     replace HO_301003 := (zRb HO_301003 hb)
     have HO312 := Aside0.mk (Kd.R_lower ho0 (below_size zb))
     replace BK293 := (zK BK293 hb)
     replace BK300 := (zK BK300 hb)
     replace HB := (zB hb)
     (try clear hb)
     (try clear hb2)
     (try clear hk)
     (try clear hi)
     (try clear ho0)
     obtain ⟨Ao32, co32, eo32⟩ := Kd.R_slice HO312.out
     (first | subst eo32 | (injection eo32 with f1_ f2_ f3_; have f4_ := f1_.symm; have f5_ := f3_.symm; clear f1_ f2_ f3_; subst f4_; subst f5_))
     refine hK.out _ _ ⟨(blk_cell BK300.out 0).trans rfl, (blk_cell BK300.out 1).trans rfl, (blk_cell BK300.out 2).trans rfl, (blk_cell BK300.out 3).trans rfl⟩ (fun hHeld => ?_); clear hK K; refine norm_ (a' := ?_) ?_ ?_; rotate_left
     ·show Act.put _ (some 63) _ = _
      simp only [Act.put, List.setIfInBounds_toArray, List.set_cons_zero, List.set_cons_succ, i64_w, i32_w]; rfl
     refine one_ (i := 3) (N := some 64) #[true, true, true, true, false] rfl rfl (by kernel_rfl) (by decide) (fun K hK => ?_); refine goes_ Try.func50 (by kernel_rfl) rfl #[.agg #[.int .i64 t294, .int .i64 t295, .string t296, .slice Ao13 t297.length co13], .slice Ao32 t310.length co32] (by rfl) rfl rfl (by (try simp only [List.map_toArray, List.map_cons, List.map_nil]); first | done | rfl | (simp only [List.length_drop, List.length_take]; rfl)) ?_
     with_reducible refine (marginalialaw05_position.calls k1 t294 t295 t296 (fun k_ => (((k_ ≠ gb293 ∧ k_ ≠ gb300) ∧ some k_ ≠ (.slice Ao29 t305.length co29 : Value).ownBlock) ∧ some k_ ≠ (.slice Ao32 t310.length co32 : Value).ownBlock)) _ _ t297 _ _ t310 t313 _ ?side1 ?side2 ?side3 A24.out).mono ?_
     (case side1 => exact Kd.R_V (Kd.R_apart' (Kd.R_apart' (HO_301003.out) (Kd.R_typed HO_8.out) (by decide)) (Kd.R_typed HO312.out) (by decide)))
     (case side2 => exact zE' (Kd.R_reads' HO312.out).2.2)
     (case side3 => exact (Kd.R_reads' HO312.out).2.1)
     rintro e w33 ⟨v314, rfl, ho0, hb⟩; refine ⟨_, rfl, ?_⟩
     replace HO_8 := (zRb HO_8 hb)
     replace HO_301003 := (zRb HO_301003 hb)
     have HO315 := Aside0.mk (Kd.R_lower (Kd.R_new' (Kd.R_mono (ok' := fun k_ => True) ho0 (fun _ hk_ => trivial)) (Kd.R_lt (zR HO312))) (below_size zb)); replace HO312 := Aside0.mk (Kd.R_elder' (zR HO312) (Kd.R_base ho0) hb)
     replace BK293 := (zK BK293 hb)
     replace BK300 := (zK BK300 hb)
     replace HB := (zB hb)
     (try clear hb)
     (try clear hb2)
     (try clear hk)
     (try clear hi)
     (try clear ho0)
     refine hK.out _ _ ⟨(blk_cell BK300.out 0).trans rfl, (blk_cell BK300.out 1).trans rfl, (blk_cell BK300.out 2).trans rfl, (blk_cell BK300.out 3).trans rfl⟩ (fun hHeld => ?_); clear hK K; refine norm_ (a' := ?_) ?_ ?_; rotate_left
     ·show Act.put _ (some 64) _ = _
      simp only [Act.put, List.setIfInBounds_toArray, List.set_cons_zero, List.set_cons_succ, i64_w, i32_w]; rfl
     refine pure_ (i := 4) (N := some 12) (v := ?_) (a' := ?_) #[true, true, true, true, true] rfl rfl (by kernel_rfl) (fun _ _ _ h => h) (Or.inl ⟨by rfl, ?_⟩) ?_ ?_; rotate_left
     ·intro w'; go_simp; with_reducible rfl
     rotate_left
     ·simp only [Act.put, List.setIfInBounds_toArray, List.set_cons_zero, List.set_cons_succ, i64_w, i32_w]; rfl
     refine done_ (by kernel_rfl) ?_; have hnb34 := NB300_293.out; have hnc34 := NB293_300.out; obtain ⟨hcz35_0, hcz35_1, hcz35_2, hcz35_3⟩ := zc4 BK300; obtain ⟨hfz35_0, hfz35_1, hfz35_2, hfz35_3⟩ := zz4 BK300; obtain ⟨Ao36, co36, eo36⟩ := Kd.R_slice HO315.out; subst eo36
     try go_wp2_with (first | ((with_reducible refine zG 49 rfl ?_); refine zg 68 Try.func49 ((tree_At.calls k1 t294 t295 t296 _ _ t297 _ _ t313 t316 t317 t318 t319 t322 _ ?side1 ?side2 ?side3 ?side4 A25.out).mono ?_); (case side1 => exact zE' (Kd.R_reads' HO_301003.out).2.2); (case side2 => exact (Kd.R_reads' HO_301003.out).2.1); (case side3 => exact zE' (Kd.R_reads' HO315.out).2.2); (case side4 => exact (Kd.R_reads' HO315.out).2.1); rintro e w37 ⟨v320, rfl, ho0, hb⟩; refine ⟨_, rfl, ?_⟩; replace HO_8 := (zRb HO_8 hb); replace HO312 := (zRb HO312 hb); replace HO315 := (zRb HO315 hb); have HO321 := Aside0.mk (Kd.R_lower (Kd.R_newB (Kd.R_newB (Kd.R_new' ho0 (Kd.R_lt (zR HO_301003))) (g := gb293) (o := .cells #[.int .i64 a0_0, .int .i64 a0_1, .string a0_2, .slice A0_3 l0_3.length c0_3] 26 (0, 0)) (Cl.blk BK293.out)) (g := gb300) (o := .cells #[.int .i64 t294, .int .i64 t295, .string t296, .slice Ao13 t297.length co13] 26 (0, 0)) (Cl.blk BK300.out)) (below_size zb)); replace HO_301003 := Aside0.mk (Kd.R_elder' (zR HO_301003) (Kd.R_base ho0) hb); replace BK293 := (zK BK293 hb); replace BK300 := (zK BK300 hb); replace HB := (zB hb); (try clear hb); (try clear hb2); (try clear hk); (try clear hi); (try clear ho0)) | ((with_reducible refine zD 13 rfl ?_); refine zx 13 #[.int .i64 0, .int .i64 0, .string (⟨#[]⟩ : ByteArray), .slice none 0 0] 26 ?_; intro gb323 hg w38 hbox hb; replace HO_8 := (zRb HO_8 hb); replace HO_301003 := Aside0.mk (Kd.R_below (Kd.R_elderB (zR HO_301003) gb323 (Nat.le_of_eq hg.symm)) hb); replace HO312 := (zRb HO312 hb); replace HO315 := (zRb HO315 hb); replace HO321 := Aside0.mk (Kd.R_below (Kd.R_elderB (zR HO321) gb323 (Nat.le_of_eq hg.symm)) hb); have BK323 := Aside0.mk (hbox); have GW323 := (zq hg : Aside0 (w.heap.size ≤ gb323)); have GE323 := GW323; replace HB := (zB hb); have NB293_323 := (zl hg BK293 : Aside0 (gb293 ≠ gb323)); have NB323_293 := (zl' hg BK293 : Aside0 (gb323 ≠ gb293)); replace BK293 := (zK BK293 hb); have NB300_323 := (zl hg BK300 : Aside0 (gb300 ≠ gb323)); have NB323_300 := (zl' hg BK300 : Aside0 (gb323 ≠ gb300)); replace BK300 := (zK BK300 hb); clear hb hbox hg; have hnb39 := NB323_293.out; have hnc39 := NB293_323.out; have hnb40 := NB323_300.out; have hnc40 := NB300_323.out; obtain ⟨hcz41_0, hcz41_1, hcz41_2, hcz41_3⟩ := zc4 BK323; obtain ⟨hfz41_0, hfz41_1, hfz41_2, hfz41_3⟩ := zz4 BK323; obtain ⟨Ao42, co42, eo42⟩ := Kd.R_slice HO321.out; subst eo42; obtain ⟨hcz43_0, hcz43_1, hcz43_2, hcz43_3⟩ := zc4 BK300; obtain ⟨hfz43_0, hfz43_1, hfz43_2, hfz43_3⟩ := zz4 BK300) | ((with_reducible refine zG 48 rfl ?_); refine zg 74 Try.func48 ((tree_Span.calls k1 t294 t295 t296 _ _ t297 _ _ t313 t324 t325 t326 _ ?side1 ?side2 ?side3 ?side4 A26.out).mono ?_); (case side1 => refine (Kd.R_reads' (e := 26) (base := w.heap.size) (ok := fun k_ => (((k_ ≠ gb293 ∧ k_ ≠ gb300) ∧ some k_ ≠ (.slice Ao42 t319.length co42 : Value).ownBlock) ∧ k_ ≠ gb323)) (n := t297.length) (c := co13) ?_).2.2; exact (by (with_reducible repeat (first | apply Kd.R_alloc | apply Kd.R_drewN | apply Kd.R_drew)); exact (Kd.R_mono (zF4 gb323 (Kd.R_mono HO_301003.out (fun k_ hk => (⟨hk, hk.2⟩ : _ ∧ k_ ≠ gb323))) (fun _ hk => hk.2)) (fun _ h_ => h_.1)))); (case side2 => exact (Kd.R_reads' HO_301003.out).2.1); (case side3 => refine (Kd.R_reads' (e := 3) (base := w.heap.size) (ok := fun k_ => (True ∧ some k_ ≠ (.slice Ao32 t310.length co32 : Value).ownBlock)) (n := t313.length) (c := co36) ?_).2.2; exact (by (with_reducible repeat (first | apply Kd.R_alloc | apply Kd.R_drewN | apply Kd.R_drew)); exact (Kd.R_mono (zF4 gb323 (Kd.R_types HO315.out BK323.out (by decide)) (fun _ hk => hk.2)) (fun _ h_ => h_.1)))); (case side4 => exact (Kd.R_reads' HO315.out).2.1); rintro e w44 ⟨rfl, hb⟩; refine ⟨_, rfl, ?_⟩; replace HO_8 := Aside0.mk (Kd.R_below (by (with_reducible repeat (first | apply Kd.R_alloc | apply Kd.R_drewN | apply Kd.R_drew)); exact (Kd.R_mono (zF4 gb323 (Kd.R_types HO_8.out BK323.out (by decide)) (fun _ hk => hk.2)) (fun _ h_ => h_.1))) hb); replace HO_301003 := Aside0.mk (Kd.R_below (by (with_reducible repeat (first | apply Kd.R_alloc | apply Kd.R_drewN | apply Kd.R_drew)); exact (Kd.R_mono (zF4 gb323 (Kd.R_mono HO_301003.out (fun k_ hk => (⟨hk, hk.2⟩ : _ ∧ k_ ≠ gb323))) (fun _ hk => hk.2)) (fun _ h_ => h_.1))) hb); replace HO312 := Aside0.mk (Kd.R_below (by (with_reducible repeat (first | apply Kd.R_alloc | apply Kd.R_drewN | apply Kd.R_drew)); exact (Kd.R_mono (zF4 gb323 (Kd.R_types HO312.out BK323.out (by decide)) (fun _ hk => hk.2)) (fun _ h_ => h_.1))) hb); replace HO315 := Aside0.mk (Kd.R_below (by (with_reducible repeat (first | apply Kd.R_alloc | apply Kd.R_drewN | apply Kd.R_drew)); exact (Kd.R_mono (zF4 gb323 (Kd.R_types HO315.out BK323.out (by decide)) (fun _ hk => hk.2)) (fun _ h_ => h_.1))) hb); replace HO321 := Aside0.mk (Kd.R_below (by (with_reducible repeat (first | apply Kd.R_alloc | apply Kd.R_drewN | apply Kd.R_drew)); exact (Kd.R_mono (zF4 gb323 (Kd.R_mono HO321.out (fun k_ hk => (⟨hk, hk.2⟩ : _ ∧ k_ ≠ gb323))) (fun _ hk => hk.2)) (fun _ h_ => h_.1))) hb); replace BK293 := (zw2 gb293 #[.int .i64 a0_0, .int .i64 a0_1, .string a0_2, .slice A0_3 l0_3.length c0_3] 26 hb); replace BK300 := (zw2 gb300 #[.int .i64 t294, .int .i64 t295, .string t296, .slice Ao13 t297.length co13] 26 hb); replace BK323 := (zw2 gb323 #[.int .i64 t316, .int .i64 t317, .string t318, .slice Ao42 t319.length co42] 26 hb); replace HB := (zB hb); (try clear hb); (try clear hb2); (try clear hk); (try clear hi)) | ((with_reducible refine zD 15 rfl ?_); refine zx 15 #[.int .i64 0, .int .i64 0] 28 ?_; intro gb327 hg w45 hbox hb; replace HO_8 := (zRb HO_8 hb); replace HO_301003 := (zRb HO_301003 hb); replace HO312 := (zRb HO312 hb); replace HO315 := (zRb HO315 hb); replace HO321 := (zRb HO321 hb); have BK327 := Aside0.mk (hbox); have GW327 := (zq hg : Aside0 (w.heap.size ≤ gb327)); have GE327 := GW327; replace HB := (zB hb); have NB293_327 := (zl hg BK293 : Aside0 (gb293 ≠ gb327)); have NB327_293 := (zl' hg BK293 : Aside0 (gb327 ≠ gb293)); replace BK293 := (zK BK293 hb); have NB300_327 := (zl hg BK300 : Aside0 (gb300 ≠ gb327)); have NB327_300 := (zl' hg BK300 : Aside0 (gb327 ≠ gb300)); replace BK300 := (zK BK300 hb); have NB323_327 := (zl hg BK323 : Aside0 (gb323 ≠ gb327)); have NB327_323 := (zl' hg BK323 : Aside0 (gb327 ≠ gb323)); replace BK323 := (zK BK323 hb); clear hb hbox hg; have hnb46 := NB327_293.out; have hnc46 := NB293_327.out; have hnb47 := NB327_300.out; have hnc47 := NB300_327.out; have hnb48 := NB327_323.out; have hnc48 := NB323_327.out; obtain ⟨hcz49_0, hcz49_1⟩ := zc2 BK327; obtain ⟨hfz49_0, hfz49_1⟩ := zz2 BK327))
     go_loopg [17, 18] k1 (fun kq v17 v18 w' => ∃ (x17_2 : Int) (x18_2 : Int), v17 = .int .i64 x17_2 ∧ v18 = .int .i64 x18_2 ∧ Aside0 (marginalialaw05_TreeLeaves.l1 kq t313 x17_2 x18_2 t294 t295 t296 t297 t316 t317 t318 t319 t324 t325 = some r) ∧ Aside0 (kq ≤ k1) ∧ Aside0 (Kd.R (Kd.int .i64) 3 w' w.heap.size (fun _ => True) (.slice Ao36 t313.length co36) t313) ∧ Aside0 (Kd.R k26 26 w' w.heap.size (fun k_ => some k_ ≠ ((.slice Ao42 t319.length co42) : Value).ownBlock ∧ k_ ≠ gb293 ∧ k_ ≠ gb300 ∧ k_ ≠ gb323) (.slice Ao13 t297.length co13) t297) ∧ Aside0 (Kd.R k26 26 w' w.heap.size (fun k_ => some k_ ≠ ((.slice Ao13 t297.length co13) : Value).ownBlock ∧ k_ ≠ gb293 ∧ k_ ≠ gb300 ∧ k_ ≠ gb323) (.slice Ao42 t319.length co42) t319) ∧ Aside0 (w'.heap[gb293]? = some (.cells #[.int .i64 a0_0, .int .i64 a0_1, .string a0_2, (.slice A0_3 l0_3.length c0_3)] 26 (0, 0))) ∧ Aside0 (w'.heap[gb300]? = some (.cells #[.int .i64 t294, .int .i64 t295, .string t296, (.slice Ao13 t297.length co13)] 26 (0, 0))) ∧ Aside0 (w'.heap[gb323]? = some (.cells #[.int .i64 t316, .int .i64 t317, .string t318, (.slice Ao42 t319.length co42)] 26 (0, 0))) ∧ Aside0 (w'.heap[gb327]? = some (.cells #[.int .i64 t324, .int .i64 t325] 28 (0, 0))) ∧ Aside0 (Below w.heap.size w w'))
     case atStart => exact ⟨(t324), (0), zs, zs, H', ⟨Nat.le_refl _⟩, ⟨by (with_reducible repeat (first | apply Kd.R_alloc | apply Kd.R_drewN | apply Kd.R_drew)); exact Kd.R_mono (Kd.R_far (p := ⟨gb327, 1, none⟩) (Kd.R_far (p := ⟨gb327, 0, none⟩) (Kd.R_types HO315.out BK327.out (by decide)) (fun _ hk => hk.2) (.int .i64 t324)) (fun _ hk => hk.2) (.int .i64 t325)) (fun _ hk => trivial)⟩, ⟨by (with_reducible repeat (first | apply Kd.R_alloc | apply Kd.R_drewN | apply Kd.R_drew)); exact Kd.R_mono (Kd.R_far (p := ⟨gb327, 1, none⟩) (Kd.R_far (p := ⟨gb327, 0, none⟩) (Kd.R_types HO_301003.out BK327.out (by decide)) (fun _ hk => hk.2) (.int .i64 t324)) (fun _ hk => hk.2) (.int .i64 t325)) (fun _ hk => ⟨hk.1.1.2, ⟨hk.1.1.1.1, ⟨hk.1.1.1.2, hk.1.2⟩⟩⟩)⟩, ⟨by (with_reducible repeat (first | apply Kd.R_alloc | apply Kd.R_drewN | apply Kd.R_drew)); exact Kd.R_mono (Kd.R_far (p := ⟨gb327, 1, none⟩) (Kd.R_far (p := ⟨gb327, 0, none⟩) (Kd.R_types HO321.out BK327.out (by decide)) (fun _ hk => hk.2) (.int .i64 t324)) (fun _ hk => hk.2) (.int .i64 t325)) (fun _ hk => ⟨hk.1.1.1.1.2, ⟨hk.1.1.1.2, ⟨hk.1.1.2, hk.1.2⟩⟩⟩)⟩, ⟨zw⟩, ⟨zw⟩, ⟨zw⟩, ⟨zw⟩, ⟨zb⟩⟩
     case round =>
      clear H'; obtain ⟨x17_2, x18_2, rfl, rfl, HA, HK2, HO_12, HO_301003, HO_324003, BK293, BK300, BK323, BK327, HB⟩ := hrel
      cases gk with
      | zero => exact absurd HA.out (by simp [marginalialaw05_TreeLeaves.l1])
      | succ k2 =>
       have H := HA.out; clear HA; simp only [marginalialaw05_TreeLeaves.l1] at H; by_cases c50 : x18_2 < (t319.length : Int)
       ·rw [if_pos c50] at H; have c50b0 := decide_eq_true c50; clear c50
        obtain ⟨y328, hy328⟩ : ∃ y_ : List Int, y_ = (([] : List Int)) := ⟨_, rfl⟩
        replace H : (if y328.length + t313.length < 17592186044416 then ((some (y328 ++ t313 : List Int)).bind fun y331 => ((some (([x18_2] : List Int) : List Int)).bind fun y334 => (if y331.length + y334.length < 17592186044416 then ((tree_Span.f k2 t294 t295 t296 t297 (y331 ++ y334)).bind fun bt340 => (if bt340.2.2 = 0 then (if bt340.1 = x17_2 then (if bt340.2.1 < x17_2 then (none) else (marginalialaw05_TreeLeaves.l1 k2 t313 bt340.2.1 (wrap64 (x18_2 + 1)) t294 t295 t296 t297 t316 t317 t318 t319 t324 t325)) else (none)) else (none))) else (none)))) else (none)) = some r := by first | (rw [hy328]; with_reducible exact H) | (have H2_ := (Option.bind_some _ _).symm.trans H; rw [hy328]; with_reducible exact H2_) | (have H2_ := (Option.bind_some _ _).symm.trans H; with_reducible exact H2_) | with_reducible exact H | (rw [hy328]; exact H) | exact H
        have Ny328 := Aside0.mk hy328; clear hy328; replace H := zi H; obtain ⟨c51, H⟩ := H; have LMc51 := Aside0.mk c51; clear c51
        obtain ⟨y331, hy331⟩ : ∃ y_ : List Int, y_ = (y328 ++ t313) := ⟨_, rfl⟩
        replace H : ((some (([x18_2] : List Int) : List Int)).bind fun y334 => (if y331.length + y334.length < 17592186044416 then ((tree_Span.f k2 t294 t295 t296 t297 (y331 ++ y334)).bind fun bt340 => (if bt340.2.2 = 0 then (if bt340.1 = x17_2 then (if bt340.2.1 < x17_2 then (none) else (marginalialaw05_TreeLeaves.l1 k2 t313 bt340.2.1 (wrap64 (x18_2 + 1)) t294 t295 t296 t297 t316 t317 t318 t319 t324 t325)) else (none)) else (none))) else (none))) = some r := by first | (rw [hy331]; with_reducible exact H) | (have H2_ := (Option.bind_some _ _).symm.trans H; rw [hy331]; with_reducible exact H2_) | (have H2_ := (Option.bind_some _ _).symm.trans H; with_reducible exact H2_) | with_reducible exact H | (rw [hy331]; exact H) | exact H
        have Ny331 := Aside0.mk hy331; clear hy331
        obtain ⟨y334, hy334⟩ : ∃ y_ : List Int, y_ = (([x18_2] : List Int)) := ⟨_, rfl⟩
        replace H : (if y331.length + y334.length < 17592186044416 then ((tree_Span.f k2 t294 t295 t296 t297 (y331 ++ y334)).bind fun bt340 => (if bt340.2.2 = 0 then (if bt340.1 = x17_2 then (if bt340.2.1 < x17_2 then (none) else (marginalialaw05_TreeLeaves.l1 k2 t313 bt340.2.1 (wrap64 (x18_2 + 1)) t294 t295 t296 t297 t316 t317 t318 t319 t324 t325)) else (none)) else (none))) else (none)) = some r := by first | (rw [hy334]; with_reducible exact H) | (have H2_ := (Option.bind_some _ _).symm.trans H; rw [hy334]; with_reducible exact H2_) | (have H2_ := (Option.bind_some _ _).symm.trans H; with_reducible exact H2_) | with_reducible exact H | (rw [hy334]; exact H) | exact H
        have Ny334 := Aside0.mk hy334; clear hy334; replace H := zi H; obtain ⟨c52, H⟩ := H; have LMc52 := Aside0.mk c52; clear c52
        obtain ⟨y337, hy337⟩ : ∃ y_ : List Int, y_ = (y331 ++ y334) := ⟨_, rfl⟩
        replace H : ((tree_Span.f k2 t294 t295 t296 t297 y337).bind fun bt340 => (if bt340.2.2 = 0 then (if bt340.1 = x17_2 then (if bt340.2.1 < x17_2 then (none) else (marginalialaw05_TreeLeaves.l1 k2 t313 bt340.2.1 (wrap64 (x18_2 + 1)) t294 t295 t296 t297 t316 t317 t318 t319 t324 t325)) else (none)) else (none))) = some r := by first | (rw [hy337]; with_reducible exact H) | (have H2_ := (Option.bind_some _ _).symm.trans H; rw [hy337]; with_reducible exact H2_) | (have H2_ := (Option.bind_some _ _).symm.trans H; with_reducible exact H2_) | with_reducible exact H | (rw [hy337]; exact H) | exact H
        have Ny337 := Aside0.mk hy337; clear hy337; replace H := Option.bind_eq_some_iff.mp H; obtain ⟨⟨t340, t341, t342⟩, A530, H⟩ := H; replace H : (if t342 = 0 then (if t340 = x17_2 then (if t341 < x17_2 then (none) else (marginalialaw05_TreeLeaves.l1 k2 t313 t341 (wrap64 (x18_2 + 1)) t294 t295 t296 t297 t316 t317 t318 t319 t324 t325)) else (none)) else (none)) = some r := H; have A53 := Aside0.mk A530; clear A530; replace H := zi3 H; obtain ⟨c54b0, c54b1, H⟩ := H; replace H := zi3 H; obtain ⟨c55b0, c55b1, H⟩ := H; replace H := zj1 H; obtain ⟨c56b0, H⟩ := H; have H' := Aside0.mk H; clear H; have hnb57 := NB323_293.out; have hnc57 := NB293_323.out; have hnb58 := NB323_300.out; have hnc58 := NB300_323.out; have hnb59 := NB323_327.out; have hnc59 := NB327_323.out; obtain ⟨hcz60_0, hcz60_1, hcz60_2, hcz60_3⟩ := zc4 BK323; obtain ⟨hfz60_0, hfz60_1, hfz60_2, hfz60_3⟩ := zz4 BK323
        try go_wp2
        replace HO_12 := Aside0.mk (Kd.R_drew HO_12.out); replace HO_301003 := Aside0.mk (Kd.R_drew HO_301003.out); replace HO_324003 := Aside0.mk (Kd.R_drew HO_324003.out); replace BK293 := Aside0.mk (blk_drew BK293.out); replace BK300 := Aside0.mk (blk_drew BK300.out); replace BK323 := Aside0.mk (blk_drew BK323.out); replace BK327 := Aside0.mk (blk_drew BK327.out); replace HB := Aside0.mk (below_drew1 HB.out); refine start_ (n := 14) (S := fun w' => w'.cell? ⟨gb300, 0, none⟩ = some (.int .i64 t294) ∧ w'.cell? ⟨gb300, 1, none⟩ = some (.int .i64 t295) ∧ w'.cell? ⟨gb300, 2, none⟩ = some (.string t296) ∧ w'.cell? ⟨gb300, 3, none⟩ = some (.slice Ao13 t297.length co13)) (ds := []) #[false, false, false, false, false, false, false, false, false, false, false, false, false, false] (by kernel_rfl) rfl rfl ⟨(blk_cell BK300.out 0).trans rfl, (blk_cell BK300.out 1).trans rfl, (blk_cell BK300.out 2).trans rfl, (blk_cell BK300.out 3).trans rfl⟩ (fun hHeld => ?_); refine with_tabW marginalialaw05_TreeLeaves.tab22 marginalialaw05_TreeLeaves.bits22 (fun HT_ HW_ => ?_); generalize wr.drew = w61 at HO_12 HO_301003 HO_324003 BK293 BK300 BK323 BK327 HB hHeld ⊢; refine zp 2 95 HT_ ?_; refine zp 4 97 HT_ ?_; refine zy 0 93 HT_ HW_ hHeld ?_; refine join_ (σ := Value × Value × Value × Value × Nat) 2 #[true, true, true, true, true, true, true, true, true, true, true, true, false, false] (fun s_ => [(94, s_.1), (96, s_.2.1), (98, s_.2.2.1), (99, s_.2.2.2.1), (100, .tuple #[.agg #[.int .i64 t340, .int .i64 t341], .int .i64 t342]), (19, .pointer (some ⟨s_.2.2.2.2, 0, none⟩)), (92, .tuple #[.agg #[.int .i64 t340, .int .i64 t341], .int .i64 t342]), (101, .agg #[.int .i64 t340, .int .i64 t341]), (102, .int .i64 t342)]) (fun s_ w' => (w'.cell? ⟨gb300, 0, none⟩ = some (.int .i64 t294) ∧ w'.cell? ⟨gb300, 1, none⟩ = some (.int .i64 t295) ∧ w'.cell? ⟨gb300, 2, none⟩ = some (.string t296) ∧ w'.cell? ⟨gb300, 3, none⟩ = some (.slice Ao13 t297.length co13)) ∧ (Kd.R (Kd.int .i64) 3 w' w.heap.size (fun k_ => some k_ ≠ (s_.2.2.2.1 : Value).ownBlock ∧ some k_ ≠ (.slice Ao36 t313.length co36 : Value).ownBlock) s_.2.2.1 y334) ∧ (Kd.R (Kd.int .i64) 3 w' w.heap.size (fun k_ => some k_ ≠ (s_.2.2.1 : Value).ownBlock ∧ some k_ ≠ (.slice Ao36 t313.length co36 : Value).ownBlock) s_.2.2.2.1 y337) ∧ (Kd.R (Kd.int .i64) 3 w' w.heap.size (fun k_ => some k_ ≠ (s_.2.2.1 : Value).ownBlock ∧ some k_ ≠ (s_.2.2.2.1 : Value).ownBlock) (.slice Ao36 t313.length co36) t313) ∧ (Kd.R k26 26 w' w.heap.size (fun k_ => some k_ ≠ (.slice Ao42 t319.length co42 : Value).ownBlock ∧ k_ ≠ gb293 ∧ k_ ≠ gb300 ∧ k_ ≠ gb323) (.slice Ao13 t297.length co13) t297) ∧ (Kd.R k26 26 w' w.heap.size (fun k_ => some k_ ≠ (.slice Ao13 t297.length co13 : Value).ownBlock ∧ k_ ≠ gb293 ∧ k_ ≠ gb300 ∧ k_ ≠ gb323) (.slice Ao42 t319.length co42) t319) ∧ (w'.heap[gb293]? = some (.cells #[.int .i64 a0_0, .int .i64 a0_1, .string a0_2, .slice A0_3 l0_3.length c0_3] 26 (0, 0))) ∧ (w'.heap[gb300]? = some (.cells #[.int .i64 t294, .int .i64 t295, .string t296, .slice Ao13 t297.length co13] 26 (0, 0))) ∧ (w'.heap[gb323]? = some (.cells #[.int .i64 t316, .int .i64 t317, .string t318, .slice Ao42 t319.length co42] 26 (0, 0))) ∧ (w'.heap[gb327]? = some (.cells #[.int .i64 t324, .int .i64 t325] 28 (0, 0))) ∧ (w'.heap[s_.2.2.2.2]? = some (.cells #[.int .i64 0, .int .i64 0] 28 (0, 0))) ∧ (w.heap.size ≤ s_.2.2.2.2) ∧ (w.heap.size ≤ s_.2.2.2.2) ∧ (gb293 ≠ s_.2.2.2.2) ∧ (s_.2.2.2.2 ≠ gb293) ∧ (gb300 ≠ s_.2.2.2.2) ∧ (s_.2.2.2.2 ≠ gb300) ∧ (gb323 ≠ s_.2.2.2.2) ∧ (s_.2.2.2.2 ≠ gb323) ∧ (gb327 ≠ s_.2.2.2.2) ∧ (s_.2.2.2.2 ≠ gb327) ∧ (Below w.heap.size w w')) ?_ ?_; rotate_left
        ·intro hJ1_3_5_6_7_11; refine join_ (σ := Value × Value × Value × Value) 3 #[true, true, true, true, true, true, true, true, true, true, true, false, false, false] (fun s_ => [(94, s_.1), (96, s_.2.1), (98, s_.2.2.1), (99, s_.2.2.2), (100, .tuple #[.agg #[.int .i64 t340, .int .i64 t341], .int .i64 t342]), (92, .tuple #[.agg #[.int .i64 t340, .int .i64 t341], .int .i64 t342]), (101, .agg #[.int .i64 t340, .int .i64 t341]), (102, .int .i64 t342)]) (fun s_ w' => (w'.cell? ⟨gb300, 0, none⟩ = some (.int .i64 t294) ∧ w'.cell? ⟨gb300, 1, none⟩ = some (.int .i64 t295) ∧ w'.cell? ⟨gb300, 2, none⟩ = some (.string t296) ∧ w'.cell? ⟨gb300, 3, none⟩ = some (.slice Ao13 t297.length co13)) ∧ (Kd.R (Kd.int .i64) 3 w' w.heap.size (fun k_ => some k_ ≠ (s_.2.2.2 : Value).ownBlock ∧ some k_ ≠ (.slice Ao36 t313.length co36 : Value).ownBlock) s_.2.2.1 y334) ∧ (Kd.R (Kd.int .i64) 3 w' w.heap.size (fun k_ => some k_ ≠ (s_.2.2.1 : Value).ownBlock ∧ some k_ ≠ (.slice Ao36 t313.length co36 : Value).ownBlock) s_.2.2.2 y337) ∧ (Kd.R (Kd.int .i64) 3 w' w.heap.size (fun k_ => some k_ ≠ (s_.2.2.1 : Value).ownBlock ∧ some k_ ≠ (s_.2.2.2 : Value).ownBlock) (.slice Ao36 t313.length co36) t313) ∧ (Kd.R k26 26 w' w.heap.size (fun k_ => some k_ ≠ (.slice Ao42 t319.length co42 : Value).ownBlock ∧ k_ ≠ gb293 ∧ k_ ≠ gb300 ∧ k_ ≠ gb323) (.slice Ao13 t297.length co13) t297) ∧ (Kd.R k26 26 w' w.heap.size (fun k_ => some k_ ≠ (.slice Ao13 t297.length co13 : Value).ownBlock ∧ k_ ≠ gb293 ∧ k_ ≠ gb300 ∧ k_ ≠ gb323) (.slice Ao42 t319.length co42) t319) ∧ (w'.heap[gb293]? = some (.cells #[.int .i64 a0_0, .int .i64 a0_1, .string a0_2, .slice A0_3 l0_3.length c0_3] 26 (0, 0))) ∧ (w'.heap[gb300]? = some (.cells #[.int .i64 t294, .int .i64 t295, .string t296, .slice Ao13 t297.length co13] 26 (0, 0))) ∧ (w'.heap[gb323]? = some (.cells #[.int .i64 t316, .int .i64 t317, .string t318, .slice Ao42 t319.length co42] 26 (0, 0))) ∧ (w'.heap[gb327]? = some (.cells #[.int .i64 t324, .int .i64 t325] 28 (0, 0))) ∧ (Below w.heap.size w w')) ?_ ?_; rotate_left
         ·intro hJ1_3_5_6_7; refine join_ (σ := Value × Value × Value × Value × Nat) 6 #[true, true, true, true, true, true, true, false, false, false, false, true, false, false] (fun s_ => [(94, s_.1), (96, s_.2.1), (98, s_.2.2.1), (99, s_.2.2.2.1), (19, .pointer (some ⟨s_.2.2.2.2, 0, none⟩))]) (fun s_ w' => (w'.cell? ⟨gb300, 0, none⟩ = some (.int .i64 t294) ∧ w'.cell? ⟨gb300, 1, none⟩ = some (.int .i64 t295) ∧ w'.cell? ⟨gb300, 2, none⟩ = some (.string t296) ∧ w'.cell? ⟨gb300, 3, none⟩ = some (.slice Ao13 t297.length co13)) ∧ (Kd.R (Kd.int .i64) 3 w' w.heap.size (fun k_ => some k_ ≠ (s_.2.2.2.1 : Value).ownBlock ∧ some k_ ≠ (.slice Ao36 t313.length co36 : Value).ownBlock) s_.2.2.1 y334) ∧ (Kd.R (Kd.int .i64) 3 w' w.heap.size (fun k_ => some k_ ≠ (s_.2.2.1 : Value).ownBlock ∧ some k_ ≠ (.slice Ao36 t313.length co36 : Value).ownBlock) s_.2.2.2.1 y337) ∧ (Kd.R (Kd.int .i64) 3 w' w.heap.size (fun k_ => some k_ ≠ (s_.2.2.1 : Value).ownBlock ∧ some k_ ≠ (s_.2.2.2.1 : Value).ownBlock) (.slice Ao36 t313.length co36) t313) ∧ (Kd.R k26 26 w' w.heap.size (fun k_ => some k_ ≠ (.slice Ao42 t319.length co42 : Value).ownBlock ∧ k_ ≠ gb293 ∧ k_ ≠ gb300 ∧ k_ ≠ gb323) (.slice Ao13 t297.length co13) t297) ∧ (Kd.R k26 26 w' w.heap.size (fun k_ => some k_ ≠ (.slice Ao13 t297.length co13 : Value).ownBlock ∧ k_ ≠ gb293 ∧ k_ ≠ gb300 ∧ k_ ≠ gb323) (.slice Ao42 t319.length co42) t319) ∧ (w'.heap[gb293]? = some (.cells #[.int .i64 a0_0, .int .i64 a0_1, .string a0_2, .slice A0_3 l0_3.length c0_3] 26 (0, 0))) ∧ (w'.heap[gb300]? = some (.cells #[.int .i64 t294, .int .i64 t295, .string t296, .slice Ao13 t297.length co13] 26 (0, 0))) ∧ (w'.heap[gb323]? = some (.cells #[.int .i64 t316, .int .i64 t317, .string t318, .slice Ao42 t319.length co42] 26 (0, 0))) ∧ (w'.heap[gb327]? = some (.cells #[.int .i64 t324, .int .i64 t325] 28 (0, 0))) ∧ (w'.heap[s_.2.2.2.2]? = some (.cells #[.int .i64 0, .int .i64 0] 28 (0, 0))) ∧ (w.heap.size ≤ s_.2.2.2.2) ∧ (w.heap.size ≤ s_.2.2.2.2) ∧ (gb293 ≠ s_.2.2.2.2) ∧ (s_.2.2.2.2 ≠ gb293) ∧ (gb300 ≠ s_.2.2.2.2) ∧ (s_.2.2.2.2 ≠ gb300) ∧ (gb323 ≠ s_.2.2.2.2) ∧ (s_.2.2.2.2 ≠ gb323) ∧ (gb327 ≠ s_.2.2.2.2) ∧ (s_.2.2.2.2 ≠ gb327) ∧ (Below w.heap.size w w')) ?_ ?_; rotate_left
          ·intro hJ1_3_5_6_11; refine join_ (σ := Value × Value × Value × Value) 7 #[true, true, true, true, true, true, true, false, false, false, false, false, false, false] (fun s_ => [(94, s_.1), (96, s_.2.1), (98, s_.2.2.1), (99, s_.2.2.2)]) (fun s_ w' => (w'.cell? ⟨gb300, 0, none⟩ = some (.int .i64 t294) ∧ w'.cell? ⟨gb300, 1, none⟩ = some (.int .i64 t295) ∧ w'.cell? ⟨gb300, 2, none⟩ = some (.string t296) ∧ w'.cell? ⟨gb300, 3, none⟩ = some (.slice Ao13 t297.length co13)) ∧ (Kd.R (Kd.int .i64) 3 w' w.heap.size (fun k_ => some k_ ≠ (s_.2.2.2 : Value).ownBlock ∧ some k_ ≠ (.slice Ao36 t313.length co36 : Value).ownBlock) s_.2.2.1 y334) ∧ (Kd.R (Kd.int .i64) 3 w' w.heap.size (fun k_ => some k_ ≠ (s_.2.2.1 : Value).ownBlock ∧ some k_ ≠ (.slice Ao36 t313.length co36 : Value).ownBlock) s_.2.2.2 y337) ∧ (Kd.R (Kd.int .i64) 3 w' w.heap.size (fun k_ => some k_ ≠ (s_.2.2.1 : Value).ownBlock ∧ some k_ ≠ (s_.2.2.2 : Value).ownBlock) (.slice Ao36 t313.length co36) t313) ∧ (Kd.R k26 26 w' w.heap.size (fun k_ => some k_ ≠ (.slice Ao42 t319.length co42 : Value).ownBlock ∧ k_ ≠ gb293 ∧ k_ ≠ gb300 ∧ k_ ≠ gb323) (.slice Ao13 t297.length co13) t297) ∧ (Kd.R k26 26 w' w.heap.size (fun k_ => some k_ ≠ (.slice Ao13 t297.length co13 : Value).ownBlock ∧ k_ ≠ gb293 ∧ k_ ≠ gb300 ∧ k_ ≠ gb323) (.slice Ao42 t319.length co42) t319) ∧ (w'.heap[gb293]? = some (.cells #[.int .i64 a0_0, .int .i64 a0_1, .string a0_2, .slice A0_3 l0_3.length c0_3] 26 (0, 0))) ∧ (w'.heap[gb300]? = some (.cells #[.int .i64 t294, .int .i64 t295, .string t296, .slice Ao13 t297.length co13] 26 (0, 0))) ∧ (w'.heap[gb323]? = some (.cells #[.int .i64 t316, .int .i64 t317, .string t318, .slice Ao42 t319.length co42] 26 (0, 0))) ∧ (w'.heap[gb327]? = some (.cells #[.int .i64 t324, .int .i64 t325] 28 (0, 0))) ∧ (Below w.heap.size w w')) ?_ ?_; rotate_left
           ·intro hJ1_3_5_6; refine join_ (σ := Value × Value × Value × Nat) 7 #[true, true, true, true, true, true, false, false, false, false, false, true, false, false] (fun s_ => [(94, s_.1), (96, s_.2.1), (98, s_.2.2.1), (19, .pointer (some ⟨s_.2.2.2, 0, none⟩))]) (fun s_ w' => (w'.cell? ⟨gb300, 0, none⟩ = some (.int .i64 t294) ∧ w'.cell? ⟨gb300, 1, none⟩ = some (.int .i64 t295) ∧ w'.cell? ⟨gb300, 2, none⟩ = some (.string t296) ∧ w'.cell? ⟨gb300, 3, none⟩ = some (.slice Ao13 t297.length co13)) ∧ (Kd.R (Kd.int .i64) 3 w' w.heap.size (fun k_ => some k_ ≠ (s_.2.2.1 : Value).ownBlock ∧ some k_ ≠ (.slice Ao36 t313.length co36 : Value).ownBlock) s_.2.1 y331) ∧ (Kd.R (Kd.int .i64) 3 w' w.heap.size (fun k_ => some k_ ≠ (s_.2.1 : Value).ownBlock ∧ some k_ ≠ (.slice Ao36 t313.length co36 : Value).ownBlock) s_.2.2.1 y334) ∧ (Kd.R (Kd.int .i64) 3 w' w.heap.size (fun k_ => some k_ ≠ (s_.2.1 : Value).ownBlock ∧ some k_ ≠ (s_.2.2.1 : Value).ownBlock) (.slice Ao36 t313.length co36) t313) ∧ (Kd.R k26 26 w' w.heap.size (fun k_ => some k_ ≠ (.slice Ao42 t319.length co42 : Value).ownBlock ∧ k_ ≠ gb293 ∧ k_ ≠ gb300 ∧ k_ ≠ gb323) (.slice Ao13 t297.length co13) t297) ∧ (Kd.R k26 26 w' w.heap.size (fun k_ => some k_ ≠ (.slice Ao13 t297.length co13 : Value).ownBlock ∧ k_ ≠ gb293 ∧ k_ ≠ gb300 ∧ k_ ≠ gb323) (.slice Ao42 t319.length co42) t319) ∧ (w'.heap[gb293]? = some (.cells #[.int .i64 a0_0, .int .i64 a0_1, .string a0_2, .slice A0_3 l0_3.length c0_3] 26 (0, 0))) ∧ (w'.heap[gb300]? = some (.cells #[.int .i64 t294, .int .i64 t295, .string t296, .slice Ao13 t297.length co13] 26 (0, 0))) ∧ (w'.heap[gb323]? = some (.cells #[.int .i64 t316, .int .i64 t317, .string t318, .slice Ao42 t319.length co42] 26 (0, 0))) ∧ (w'.heap[gb327]? = some (.cells #[.int .i64 t324, .int .i64 t325] 28 (0, 0))) ∧ (w'.heap[s_.2.2.2]? = some (.cells #[.int .i64 0, .int .i64 0] 28 (0, 0))) ∧ (w.heap.size ≤ s_.2.2.2) ∧ (w.heap.size ≤ s_.2.2.2) ∧ (gb293 ≠ s_.2.2.2) ∧ (s_.2.2.2 ≠ gb293) ∧ (gb300 ≠ s_.2.2.2) ∧ (s_.2.2.2 ≠ gb300) ∧ (gb323 ≠ s_.2.2.2) ∧ (s_.2.2.2 ≠ gb323) ∧ (gb327 ≠ s_.2.2.2) ∧ (s_.2.2.2 ≠ gb327) ∧ (Below w.heap.size w w')) ?_ ?_; rotate_left
            ·intro hJ1_3_5_11; refine join_ (σ := Value × Value × Value) 8 #[true, true, true, true, true, true, false, false, false, false, false, false, false, false] (fun s_ => [(94, s_.1), (96, s_.2.1), (98, s_.2.2)]) (fun s_ w' => (w'.cell? ⟨gb300, 0, none⟩ = some (.int .i64 t294) ∧ w'.cell? ⟨gb300, 1, none⟩ = some (.int .i64 t295) ∧ w'.cell? ⟨gb300, 2, none⟩ = some (.string t296) ∧ w'.cell? ⟨gb300, 3, none⟩ = some (.slice Ao13 t297.length co13)) ∧ (Kd.R (Kd.int .i64) 3 w' w.heap.size (fun k_ => some k_ ≠ (s_.2.2 : Value).ownBlock ∧ some k_ ≠ (.slice Ao36 t313.length co36 : Value).ownBlock) s_.2.1 y331) ∧ (Kd.R (Kd.int .i64) 3 w' w.heap.size (fun k_ => some k_ ≠ (s_.2.1 : Value).ownBlock ∧ some k_ ≠ (.slice Ao36 t313.length co36 : Value).ownBlock) s_.2.2 y334) ∧ (Kd.R (Kd.int .i64) 3 w' w.heap.size (fun k_ => some k_ ≠ (s_.2.1 : Value).ownBlock ∧ some k_ ≠ (s_.2.2 : Value).ownBlock) (.slice Ao36 t313.length co36) t313) ∧ (Kd.R k26 26 w' w.heap.size (fun k_ => some k_ ≠ (.slice Ao42 t319.length co42 : Value).ownBlock ∧ k_ ≠ gb293 ∧ k_ ≠ gb300 ∧ k_ ≠ gb323) (.slice Ao13 t297.length co13) t297) ∧ (Kd.R k26 26 w' w.heap.size (fun k_ => some k_ ≠ (.slice Ao13 t297.length co13 : Value).ownBlock ∧ k_ ≠ gb293 ∧ k_ ≠ gb300 ∧ k_ ≠ gb323) (.slice Ao42 t319.length co42) t319) ∧ (w'.heap[gb293]? = some (.cells #[.int .i64 a0_0, .int .i64 a0_1, .string a0_2, .slice A0_3 l0_3.length c0_3] 26 (0, 0))) ∧ (w'.heap[gb300]? = some (.cells #[.int .i64 t294, .int .i64 t295, .string t296, .slice Ao13 t297.length co13] 26 (0, 0))) ∧ (w'.heap[gb323]? = some (.cells #[.int .i64 t316, .int .i64 t317, .string t318, .slice Ao42 t319.length co42] 26 (0, 0))) ∧ (w'.heap[gb327]? = some (.cells #[.int .i64 t324, .int .i64 t325] 28 (0, 0))) ∧ (Below w.heap.size w w')) ?_ ?_; rotate_left
             ·intro hJ1_3_5; refine join_ (σ := Value × Value × Nat) 8 #[true, true, true, true, true, false, false, false, false, false, false, true, false, false] (fun s_ => [(94, s_.1), (96, s_.2.1), (19, .pointer (some ⟨s_.2.2, 0, none⟩))]) (fun s_ w' => (w'.cell? ⟨gb300, 0, none⟩ = some (.int .i64 t294) ∧ w'.cell? ⟨gb300, 1, none⟩ = some (.int .i64 t295) ∧ w'.cell? ⟨gb300, 2, none⟩ = some (.string t296) ∧ w'.cell? ⟨gb300, 3, none⟩ = some (.slice Ao13 t297.length co13)) ∧ (Kd.R (Kd.int .i64) 3 w' w.heap.size (fun k_ => some k_ ≠ (.slice Ao36 t313.length co36 : Value).ownBlock) s_.2.1 y331) ∧ (Kd.R (Kd.int .i64) 3 w' w.heap.size (fun k_ => some k_ ≠ (s_.2.1 : Value).ownBlock) (.slice Ao36 t313.length co36) t313) ∧ (Kd.R k26 26 w' w.heap.size (fun k_ => some k_ ≠ (.slice Ao42 t319.length co42 : Value).ownBlock ∧ k_ ≠ gb293 ∧ k_ ≠ gb300 ∧ k_ ≠ gb323) (.slice Ao13 t297.length co13) t297) ∧ (Kd.R k26 26 w' w.heap.size (fun k_ => some k_ ≠ (.slice Ao13 t297.length co13 : Value).ownBlock ∧ k_ ≠ gb293 ∧ k_ ≠ gb300 ∧ k_ ≠ gb323) (.slice Ao42 t319.length co42) t319) ∧ (w'.heap[gb293]? = some (.cells #[.int .i64 a0_0, .int .i64 a0_1, .string a0_2, .slice A0_3 l0_3.length c0_3] 26 (0, 0))) ∧ (w'.heap[gb300]? = some (.cells #[.int .i64 t294, .int .i64 t295, .string t296, .slice Ao13 t297.length co13] 26 (0, 0))) ∧ (w'.heap[gb323]? = some (.cells #[.int .i64 t316, .int .i64 t317, .string t318, .slice Ao42 t319.length co42] 26 (0, 0))) ∧ (w'.heap[gb327]? = some (.cells #[.int .i64 t324, .int .i64 t325] 28 (0, 0))) ∧ (w'.heap[s_.2.2]? = some (.cells #[.int .i64 0, .int .i64 0] 28 (0, 0))) ∧ (w.heap.size ≤ s_.2.2) ∧ (w.heap.size ≤ s_.2.2) ∧ (gb293 ≠ s_.2.2) ∧ (s_.2.2 ≠ gb293) ∧ (gb300 ≠ s_.2.2) ∧ (s_.2.2 ≠ gb300) ∧ (gb323 ≠ s_.2.2) ∧ (s_.2.2 ≠ gb323) ∧ (gb327 ≠ s_.2.2) ∧ (s_.2.2 ≠ gb327) ∧ (Below w.heap.size w w')) ?_ ?_; rotate_left
              ·intro hJ1_3_11; refine join_ (σ := Value × Value × Nat) 8 #[true, true, true, false, true, true, false, false, false, false, false, true, false, false] (fun s_ => [(94, s_.1), (98, s_.2.1), (19, .pointer (some ⟨s_.2.2, 0, none⟩))]) (fun s_ w' => (w'.cell? ⟨gb300, 0, none⟩ = some (.int .i64 t294) ∧ w'.cell? ⟨gb300, 1, none⟩ = some (.int .i64 t295) ∧ w'.cell? ⟨gb300, 2, none⟩ = some (.string t296) ∧ w'.cell? ⟨gb300, 3, none⟩ = some (.slice Ao13 t297.length co13)) ∧ (Kd.R (Kd.int .i64) 3 w' w.heap.size (fun k_ => some k_ ≠ (s_.2.1 : Value).ownBlock ∧ some k_ ≠ (.slice Ao36 t313.length co36 : Value).ownBlock) s_.1 y328) ∧ (Kd.R (Kd.int .i64) 3 w' w.heap.size (fun k_ => some k_ ≠ (s_.1 : Value).ownBlock ∧ some k_ ≠ (.slice Ao36 t313.length co36 : Value).ownBlock) s_.2.1 y334) ∧ (Kd.R (Kd.int .i64) 3 w' w.heap.size (fun k_ => some k_ ≠ (s_.1 : Value).ownBlock ∧ some k_ ≠ (s_.2.1 : Value).ownBlock) (.slice Ao36 t313.length co36) t313) ∧ (Kd.R k26 26 w' w.heap.size (fun k_ => some k_ ≠ (.slice Ao42 t319.length co42 : Value).ownBlock ∧ k_ ≠ gb293 ∧ k_ ≠ gb300 ∧ k_ ≠ gb323) (.slice Ao13 t297.length co13) t297) ∧ (Kd.R k26 26 w' w.heap.size (fun k_ => some k_ ≠ (.slice Ao13 t297.length co13 : Value).ownBlock ∧ k_ ≠ gb293 ∧ k_ ≠ gb300 ∧ k_ ≠ gb323) (.slice Ao42 t319.length co42) t319) ∧ (w'.heap[gb293]? = some (.cells #[.int .i64 a0_0, .int .i64 a0_1, .string a0_2, .slice A0_3 l0_3.length c0_3] 26 (0, 0))) ∧ (w'.heap[gb300]? = some (.cells #[.int .i64 t294, .int .i64 t295, .string t296, .slice Ao13 t297.length co13] 26 (0, 0))) ∧ (w'.heap[gb323]? = some (.cells #[.int .i64 t316, .int .i64 t317, .string t318, .slice Ao42 t319.length co42] 26 (0, 0))) ∧ (w'.heap[gb327]? = some (.cells #[.int .i64 t324, .int .i64 t325] 28 (0, 0))) ∧ (w'.heap[s_.2.2]? = some (.cells #[.int .i64 0, .int .i64 0] 28 (0, 0))) ∧ (w.heap.size ≤ s_.2.2) ∧ (w.heap.size ≤ s_.2.2) ∧ (gb293 ≠ s_.2.2) ∧ (s_.2.2 ≠ gb293) ∧ (gb300 ≠ s_.2.2) ∧ (s_.2.2 ≠ gb300) ∧ (gb323 ≠ s_.2.2) ∧ (s_.2.2 ≠ gb323) ∧ (gb327 ≠ s_.2.2) ∧ (s_.2.2 ≠ gb327) ∧ (Below w.heap.size w w')) ?_ ?_; rotate_left
               ·intro hJ1_5_11; refine join_ (σ := Value × Value) 9 #[true, true, true, true, true, false, false, false, false, false, false, false, false, false] (fun s_ => [(94, s_.1), (96, s_.2)]) (fun s_ w' => (w'.cell? ⟨gb300, 0, none⟩ = some (.int .i64 t294) ∧ w'.cell? ⟨gb300, 1, none⟩ = some (.int .i64 t295) ∧ w'.cell? ⟨gb300, 2, none⟩ = some (.string t296) ∧ w'.cell? ⟨gb300, 3, none⟩ = some (.slice Ao13 t297.length co13)) ∧ (Kd.R (Kd.int .i64) 3 w' w.heap.size (fun k_ => some k_ ≠ (.slice Ao36 t313.length co36 : Value).ownBlock) s_.2 y331) ∧ (Kd.R (Kd.int .i64) 3 w' w.heap.size (fun k_ => some k_ ≠ (s_.2 : Value).ownBlock) (.slice Ao36 t313.length co36) t313) ∧ (Kd.R k26 26 w' w.heap.size (fun k_ => some k_ ≠ (.slice Ao42 t319.length co42 : Value).ownBlock ∧ k_ ≠ gb293 ∧ k_ ≠ gb300 ∧ k_ ≠ gb323) (.slice Ao13 t297.length co13) t297) ∧ (Kd.R k26 26 w' w.heap.size (fun k_ => some k_ ≠ (.slice Ao13 t297.length co13 : Value).ownBlock ∧ k_ ≠ gb293 ∧ k_ ≠ gb300 ∧ k_ ≠ gb323) (.slice Ao42 t319.length co42) t319) ∧ (w'.heap[gb293]? = some (.cells #[.int .i64 a0_0, .int .i64 a0_1, .string a0_2, .slice A0_3 l0_3.length c0_3] 26 (0, 0))) ∧ (w'.heap[gb300]? = some (.cells #[.int .i64 t294, .int .i64 t295, .string t296, .slice Ao13 t297.length co13] 26 (0, 0))) ∧ (w'.heap[gb323]? = some (.cells #[.int .i64 t316, .int .i64 t317, .string t318, .slice Ao42 t319.length co42] 26 (0, 0))) ∧ (w'.heap[gb327]? = some (.cells #[.int .i64 t324, .int .i64 t325] 28 (0, 0))) ∧ (Below w.heap.size w w')) ?_ ?_; rotate_left
                ·intro hJ1_3; refine join_ (σ := Value × Value) 9 #[true, true, true, false, true, true, false, false, false, false, false, false, false, false] (fun s_ => [(94, s_.1), (98, s_.2)]) (fun s_ w' => (w'.cell? ⟨gb300, 0, none⟩ = some (.int .i64 t294) ∧ w'.cell? ⟨gb300, 1, none⟩ = some (.int .i64 t295) ∧ w'.cell? ⟨gb300, 2, none⟩ = some (.string t296) ∧ w'.cell? ⟨gb300, 3, none⟩ = some (.slice Ao13 t297.length co13)) ∧ (Kd.R (Kd.int .i64) 3 w' w.heap.size (fun k_ => some k_ ≠ (s_.2 : Value).ownBlock ∧ some k_ ≠ (.slice Ao36 t313.length co36 : Value).ownBlock) s_.1 y328) ∧ (Kd.R (Kd.int .i64) 3 w' w.heap.size (fun k_ => some k_ ≠ (s_.1 : Value).ownBlock ∧ some k_ ≠ (.slice Ao36 t313.length co36 : Value).ownBlock) s_.2 y334) ∧ (Kd.R (Kd.int .i64) 3 w' w.heap.size (fun k_ => some k_ ≠ (s_.1 : Value).ownBlock ∧ some k_ ≠ (s_.2 : Value).ownBlock) (.slice Ao36 t313.length co36) t313) ∧ (Kd.R k26 26 w' w.heap.size (fun k_ => some k_ ≠ (.slice Ao42 t319.length co42 : Value).ownBlock ∧ k_ ≠ gb293 ∧ k_ ≠ gb300 ∧ k_ ≠ gb323) (.slice Ao13 t297.length co13) t297) ∧ (Kd.R k26 26 w' w.heap.size (fun k_ => some k_ ≠ (.slice Ao13 t297.length co13 : Value).ownBlock ∧ k_ ≠ gb293 ∧ k_ ≠ gb300 ∧ k_ ≠ gb323) (.slice Ao42 t319.length co42) t319) ∧ (w'.heap[gb293]? = some (.cells #[.int .i64 a0_0, .int .i64 a0_1, .string a0_2, .slice A0_3 l0_3.length c0_3] 26 (0, 0))) ∧ (w'.heap[gb300]? = some (.cells #[.int .i64 t294, .int .i64 t295, .string t296, .slice Ao13 t297.length co13] 26 (0, 0))) ∧ (w'.heap[gb323]? = some (.cells #[.int .i64 t316, .int .i64 t317, .string t318, .slice Ao42 t319.length co42] 26 (0, 0))) ∧ (w'.heap[gb327]? = some (.cells #[.int .i64 t324, .int .i64 t325] 28 (0, 0))) ∧ (Below w.heap.size w w')) ?_ ?_; rotate_left
                 ·intro hJ1_5; refine join_ (σ := Value × Nat) 9 #[true, true, true, false, true, false, false, false, false, false, false, true, false, false] (fun s_ => [(94, s_.1), (19, .pointer (some ⟨s_.2, 0, none⟩))]) (fun s_ w' => (w'.cell? ⟨gb300, 0, none⟩ = some (.int .i64 t294) ∧ w'.cell? ⟨gb300, 1, none⟩ = some (.int .i64 t295) ∧ w'.cell? ⟨gb300, 2, none⟩ = some (.string t296) ∧ w'.cell? ⟨gb300, 3, none⟩ = some (.slice Ao13 t297.length co13)) ∧ (Kd.R (Kd.int .i64) 3 w' w.heap.size (fun k_ => some k_ ≠ (.slice Ao36 t313.length co36 : Value).ownBlock) s_.1 y328) ∧ (Kd.R (Kd.int .i64) 3 w' w.heap.size (fun k_ => some k_ ≠ (s_.1 : Value).ownBlock) (.slice Ao36 t313.length co36) t313) ∧ (Kd.R k26 26 w' w.heap.size (fun k_ => some k_ ≠ (.slice Ao42 t319.length co42 : Value).ownBlock ∧ k_ ≠ gb293 ∧ k_ ≠ gb300 ∧ k_ ≠ gb323) (.slice Ao13 t297.length co13) t297) ∧ (Kd.R k26 26 w' w.heap.size (fun k_ => some k_ ≠ (.slice Ao13 t297.length co13 : Value).ownBlock ∧ k_ ≠ gb293 ∧ k_ ≠ gb300 ∧ k_ ≠ gb323) (.slice Ao42 t319.length co42) t319) ∧ (w'.heap[gb293]? = some (.cells #[.int .i64 a0_0, .int .i64 a0_1, .string a0_2, .slice A0_3 l0_3.length c0_3] 26 (0, 0))) ∧ (w'.heap[gb300]? = some (.cells #[.int .i64 t294, .int .i64 t295, .string t296, .slice Ao13 t297.length co13] 26 (0, 0))) ∧ (w'.heap[gb323]? = some (.cells #[.int .i64 t316, .int .i64 t317, .string t318, .slice Ao42 t319.length co42] 26 (0, 0))) ∧ (w'.heap[gb327]? = some (.cells #[.int .i64 t324, .int .i64 t325] 28 (0, 0))) ∧ (w'.heap[s_.2]? = some (.cells #[.int .i64 0, .int .i64 0] 28 (0, 0))) ∧ (w.heap.size ≤ s_.2) ∧ (w.heap.size ≤ s_.2) ∧ (gb293 ≠ s_.2) ∧ (s_.2 ≠ gb293) ∧ (gb300 ≠ s_.2) ∧ (s_.2 ≠ gb300) ∧ (gb323 ≠ s_.2) ∧ (s_.2 ≠ gb323) ∧ (gb327 ≠ s_.2) ∧ (s_.2 ≠ gb327) ∧ (Below w.heap.size w w')) ?_ ?_; rotate_left
                  ·intro hJ1_11; refine join_ (σ := Value × Nat) 9 #[true, false, true, false, true, true, false, false, false, false, false, true, false, false] (fun s_ => [(98, s_.1), (19, .pointer (some ⟨s_.2, 0, none⟩))]) (fun s_ w' => (w'.cell? ⟨gb300, 0, none⟩ = some (.int .i64 t294) ∧ w'.cell? ⟨gb300, 1, none⟩ = some (.int .i64 t295) ∧ w'.cell? ⟨gb300, 2, none⟩ = some (.string t296) ∧ w'.cell? ⟨gb300, 3, none⟩ = some (.slice Ao13 t297.length co13)) ∧ (Kd.R (Kd.int .i64) 3 w' w.heap.size (fun k_ => some k_ ≠ (.slice Ao36 t313.length co36 : Value).ownBlock) s_.1 y334) ∧ (Kd.R (Kd.int .i64) 3 w' w.heap.size (fun k_ => some k_ ≠ (s_.1 : Value).ownBlock) (.slice Ao36 t313.length co36) t313) ∧ (Kd.R k26 26 w' w.heap.size (fun k_ => some k_ ≠ (.slice Ao42 t319.length co42 : Value).ownBlock ∧ k_ ≠ gb293 ∧ k_ ≠ gb300 ∧ k_ ≠ gb323) (.slice Ao13 t297.length co13) t297) ∧ (Kd.R k26 26 w' w.heap.size (fun k_ => some k_ ≠ (.slice Ao13 t297.length co13 : Value).ownBlock ∧ k_ ≠ gb293 ∧ k_ ≠ gb300 ∧ k_ ≠ gb323) (.slice Ao42 t319.length co42) t319) ∧ (w'.heap[gb293]? = some (.cells #[.int .i64 a0_0, .int .i64 a0_1, .string a0_2, .slice A0_3 l0_3.length c0_3] 26 (0, 0))) ∧ (w'.heap[gb300]? = some (.cells #[.int .i64 t294, .int .i64 t295, .string t296, .slice Ao13 t297.length co13] 26 (0, 0))) ∧ (w'.heap[gb323]? = some (.cells #[.int .i64 t316, .int .i64 t317, .string t318, .slice Ao42 t319.length co42] 26 (0, 0))) ∧ (w'.heap[gb327]? = some (.cells #[.int .i64 t324, .int .i64 t325] 28 (0, 0))) ∧ (w'.heap[s_.2]? = some (.cells #[.int .i64 0, .int .i64 0] 28 (0, 0))) ∧ (w.heap.size ≤ s_.2) ∧ (w.heap.size ≤ s_.2) ∧ (gb293 ≠ s_.2) ∧ (s_.2 ≠ gb293) ∧ (gb300 ≠ s_.2) ∧ (s_.2 ≠ gb300) ∧ (gb323 ≠ s_.2) ∧ (s_.2 ≠ gb323) ∧ (gb327 ≠ s_.2) ∧ (s_.2 ≠ gb327) ∧ (Below w.heap.size w w')) ?_ ?_; rotate_left
                   ·intro hJ5_11; refine join_ (σ := Value) 10 #[true, true, true, false, true, false, false, false, false, false, false, false, false, false] (fun s_ => [(94, s_)]) (fun s_ w' => (w'.cell? ⟨gb300, 0, none⟩ = some (.int .i64 t294) ∧ w'.cell? ⟨gb300, 1, none⟩ = some (.int .i64 t295) ∧ w'.cell? ⟨gb300, 2, none⟩ = some (.string t296) ∧ w'.cell? ⟨gb300, 3, none⟩ = some (.slice Ao13 t297.length co13)) ∧ (Kd.R (Kd.int .i64) 3 w' w.heap.size (fun k_ => some k_ ≠ (.slice Ao36 t313.length co36 : Value).ownBlock) s_ y328) ∧ (Kd.R (Kd.int .i64) 3 w' w.heap.size (fun k_ => some k_ ≠ (s_ : Value).ownBlock) (.slice Ao36 t313.length co36) t313) ∧ (Kd.R k26 26 w' w.heap.size (fun k_ => some k_ ≠ (.slice Ao42 t319.length co42 : Value).ownBlock ∧ k_ ≠ gb293 ∧ k_ ≠ gb300 ∧ k_ ≠ gb323) (.slice Ao13 t297.length co13) t297) ∧ (Kd.R k26 26 w' w.heap.size (fun k_ => some k_ ≠ (.slice Ao13 t297.length co13 : Value).ownBlock ∧ k_ ≠ gb293 ∧ k_ ≠ gb300 ∧ k_ ≠ gb323) (.slice Ao42 t319.length co42) t319) ∧ (w'.heap[gb293]? = some (.cells #[.int .i64 a0_0, .int .i64 a0_1, .string a0_2, .slice A0_3 l0_3.length c0_3] 26 (0, 0))) ∧ (w'.heap[gb300]? = some (.cells #[.int .i64 t294, .int .i64 t295, .string t296, .slice Ao13 t297.length co13] 26 (0, 0))) ∧ (w'.heap[gb323]? = some (.cells #[.int .i64 t316, .int .i64 t317, .string t318, .slice Ao42 t319.length co42] 26 (0, 0))) ∧ (w'.heap[gb327]? = some (.cells #[.int .i64 t324, .int .i64 t325] 28 (0, 0))) ∧ (Below w.heap.size w w')) ?_ ?_; rotate_left
                    ·intro hJ1; refine join_ (σ := Value) 10 #[true, false, true, false, true, true, false, false, false, false, false, false, false, false] (fun s_ => [(98, s_)]) (fun s_ w' => (w'.cell? ⟨gb300, 0, none⟩ = some (.int .i64 t294) ∧ w'.cell? ⟨gb300, 1, none⟩ = some (.int .i64 t295) ∧ w'.cell? ⟨gb300, 2, none⟩ = some (.string t296) ∧ w'.cell? ⟨gb300, 3, none⟩ = some (.slice Ao13 t297.length co13)) ∧ (Kd.R (Kd.int .i64) 3 w' w.heap.size (fun k_ => some k_ ≠ (.slice Ao36 t313.length co36 : Value).ownBlock) s_ y334) ∧ (Kd.R (Kd.int .i64) 3 w' w.heap.size (fun k_ => some k_ ≠ (s_ : Value).ownBlock) (.slice Ao36 t313.length co36) t313) ∧ (Kd.R k26 26 w' w.heap.size (fun k_ => some k_ ≠ (.slice Ao42 t319.length co42 : Value).ownBlock ∧ k_ ≠ gb293 ∧ k_ ≠ gb300 ∧ k_ ≠ gb323) (.slice Ao13 t297.length co13) t297) ∧ (Kd.R k26 26 w' w.heap.size (fun k_ => some k_ ≠ (.slice Ao13 t297.length co13 : Value).ownBlock ∧ k_ ≠ gb293 ∧ k_ ≠ gb300 ∧ k_ ≠ gb323) (.slice Ao42 t319.length co42) t319) ∧ (w'.heap[gb293]? = some (.cells #[.int .i64 a0_0, .int .i64 a0_1, .string a0_2, .slice A0_3 l0_3.length c0_3] 26 (0, 0))) ∧ (w'.heap[gb300]? = some (.cells #[.int .i64 t294, .int .i64 t295, .string t296, .slice Ao13 t297.length co13] 26 (0, 0))) ∧ (w'.heap[gb323]? = some (.cells #[.int .i64 t316, .int .i64 t317, .string t318, .slice Ao42 t319.length co42] 26 (0, 0))) ∧ (w'.heap[gb327]? = some (.cells #[.int .i64 t324, .int .i64 t325] 28 (0, 0))) ∧ (Below w.heap.size w w')) ?_ ?_; rotate_left
                     ·intro hJ5; refine join_ (σ := Nat) 10 #[true, false, true, false, true, false, false, false, false, false, false, true, false, false] (fun s_ => [(19, .pointer (some ⟨s_, 0, none⟩))]) (fun s_ w' => (w'.cell? ⟨gb300, 0, none⟩ = some (.int .i64 t294) ∧ w'.cell? ⟨gb300, 1, none⟩ = some (.int .i64 t295) ∧ w'.cell? ⟨gb300, 2, none⟩ = some (.string t296) ∧ w'.cell? ⟨gb300, 3, none⟩ = some (.slice Ao13 t297.length co13)) ∧ (Kd.R (Kd.int .i64) 3 w' w.heap.size (fun _ => True) (.slice Ao36 t313.length co36) t313) ∧ (Kd.R k26 26 w' w.heap.size (fun k_ => some k_ ≠ (.slice Ao42 t319.length co42 : Value).ownBlock ∧ k_ ≠ gb293 ∧ k_ ≠ gb300 ∧ k_ ≠ gb323) (.slice Ao13 t297.length co13) t297) ∧ (Kd.R k26 26 w' w.heap.size (fun k_ => some k_ ≠ (.slice Ao13 t297.length co13 : Value).ownBlock ∧ k_ ≠ gb293 ∧ k_ ≠ gb300 ∧ k_ ≠ gb323) (.slice Ao42 t319.length co42) t319) ∧ (w'.heap[gb293]? = some (.cells #[.int .i64 a0_0, .int .i64 a0_1, .string a0_2, .slice A0_3 l0_3.length c0_3] 26 (0, 0))) ∧ (w'.heap[gb300]? = some (.cells #[.int .i64 t294, .int .i64 t295, .string t296, .slice Ao13 t297.length co13] 26 (0, 0))) ∧ (w'.heap[gb323]? = some (.cells #[.int .i64 t316, .int .i64 t317, .string t318, .slice Ao42 t319.length co42] 26 (0, 0))) ∧ (w'.heap[gb327]? = some (.cells #[.int .i64 t324, .int .i64 t325] 28 (0, 0))) ∧ (w'.heap[s_]? = some (.cells #[.int .i64 0, .int .i64 0] 28 (0, 0))) ∧ (w.heap.size ≤ s_) ∧ (w.heap.size ≤ s_) ∧ (gb293 ≠ s_) ∧ (s_ ≠ gb293) ∧ (gb300 ≠ s_) ∧ (s_ ≠ gb300) ∧ (gb323 ≠ s_) ∧ (s_ ≠ gb323) ∧ (gb327 ≠ s_) ∧ (s_ ≠ gb327) ∧ (Below w.heap.size w w')) ?_ ?_; rotate_left
                      ·intro hJ11; refine three_ (i := 1) (j := 5) (k := 11) (Ni := some 94) (Nj := some 98) (Nk := some 19) #[true, true, true, false, true, false, false, false, false, false, false, false, false, false] #[true, false, true, false, true, true, false, false, false, false, false, false, false, false] #[true, false, true, false, true, false, false, false, false, false, false, true, false, false] rfl rfl rfl rfl rfl rfl (three_of HT_.out (by kernel_rfl)) (by decide) (by decide) (by decide) (fun K hK => ?_) (fun K hK => ?_) (fun K hK => ?_)
                       ·skip
                        refine Kd.R_lit_step (Kd.int .i64) _ 3 ?hg (N := 94) ?hd (xs := ([] : List Int)) (inner := []) (ok := fun _ => True) (okp := fun _ => True) ?hr ?hp (fun _ hk => hk) trivial (Below.refl _ _) (Nat.le_refl _) (by simp) ?_; (case hd => rfl); (case hg => rfl); (case hr => first | (go_simp; done) | (go_simp; rfl)); (case hp => exact (Reps.none _ _)); intro v329 w62 ho63 hb hg_ hnew_; clear hg_ hnew_
                        (first | rw [← Ny328.out] at ho63 | (simp only [Int.reduceToNat] at ho63; rw [← Ny328.out] at ho63))
                        replace HO_301003 := (zRb HO_301003 hb)
                        replace HO_324003 := (zRb HO_324003 hb)
                        have HO330 := Aside0.mk (Kd.R_lower (Kd.R_new' ho63 (Kd.R_lt (zR HO_12))) (below_size zb)); replace HO_12 := Aside0.mk (Kd.R_elder' (zR HO_12) (Kd.R_base ho63) hb)
                        replace BK293 := (zK BK293 hb)
                        replace BK300 := (zK BK300 hb)
                        replace BK323 := (zK BK323 hb)
                        replace BK327 := (zK BK327 hb)
                        replace HB := (zB hb)
                        clear hb ho63; refine hK.out _ _ ⟨(blk_cell BK300.out 0).trans rfl, (blk_cell BK300.out 1).trans rfl, (blk_cell BK300.out 2).trans rfl, (blk_cell BK300.out 3).trans rfl⟩ (fun hHeld => ?_); clear hK K; refine norm_ (a' := ?_) ?_ ?_; rotate_left
                        ·show Act.put _ (some 94) _ = _
                         simp only [Act.put, List.setIfInBounds_toArray, List.set_cons_zero, List.set_cons_succ, i64_w, i32_w]; rfl
                        exact zN (hJ1 (v329) _ ⟨hHeld, (zRm HO330 (fun _ hk => hk.2)), (zRm HO_12 (fun _ hk => hk.2)), (zR HO_301003), (zR HO_324003), (Cl.blk BK293.out), (Cl.blk BK300.out), (Cl.blk BK323.out), (Cl.blk BK327.out), zb⟩)
                       ·skip
                        refine Kd.R_lit_step (Kd.int .i64) _ 3 ?hg (N := 98) ?hd (xs := ([x18_2] : List Int)) (inner := [.int .i64 x18_2]) (ok := fun _ => True) (okp := fun _ => True) ?hr ?hp (fun _ hk => hk) trivial (Below.refl _ _) (Nat.le_refl _) (by simp) ?_; (case hd => rfl); (case hg => rfl); (case hr => first | (go_simp; done) | (go_simp; rfl)); (case hp => exact (Reps.one (show Kd.M (Kd.int .i64) _ _ _ x18_2 [.int .i64 x18_2] from rfl) (Reps.none _ _))); intro v335 w62 ho63 hb hg_ hnew_; clear hg_ hnew_
                        (first | rw [← Ny334.out] at ho63 | (simp only [Int.reduceToNat] at ho63; rw [← Ny334.out] at ho63))
                        replace HO_301003 := (zRb HO_301003 hb)
                        replace HO_324003 := (zRb HO_324003 hb)
                        have HO336 := Aside0.mk (Kd.R_lower (Kd.R_new' ho63 (Kd.R_lt (zR HO_12))) (below_size zb)); replace HO_12 := Aside0.mk (Kd.R_elder' (zR HO_12) (Kd.R_base ho63) hb)
                        replace BK293 := (zK BK293 hb)
                        replace BK300 := (zK BK300 hb)
                        replace BK323 := (zK BK323 hb)
                        replace BK327 := (zK BK327 hb)
                        replace HB := (zB hb)
                        clear hb ho63; refine hK.out _ _ ⟨(blk_cell BK300.out 0).trans rfl, (blk_cell BK300.out 1).trans rfl, (blk_cell BK300.out 2).trans rfl, (blk_cell BK300.out 3).trans rfl⟩ (fun hHeld => ?_); clear hK K; refine norm_ (a' := ?_) ?_ ?_; rotate_left
                        ·show Act.put _ (some 98) _ = _
                         simp only [Act.put, List.setIfInBounds_toArray, List.set_cons_zero, List.set_cons_succ, i64_w, i32_w]; rfl
                        exact zN (hJ5 (v335) _ ⟨hHeld, (zRm HO336 (fun _ hk => hk.2)), (zRm HO_12 (fun _ hk => hk.2)), (zR HO_301003), (zR HO_324003), (Cl.blk BK293.out), (Cl.blk BK300.out), (Cl.blk BK323.out), (Cl.blk BK327.out), zb⟩)
                       ·skip
                        refine box_step ?hg (N := 19) ?hd (cs := #[.int .i64 0, .int .i64 0]) (t := 28) ?hr ?_; (case hd => rfl); (case hg => rfl); (case hr => first | (go_simp; done) | (go_simp; rfl)); intro gb343 hg w62 hbox hb
                        replace HO_12 := (zRb HO_12 hb)
                        replace HO_301003 := (zRb HO_301003 hb)
                        replace HO_324003 := (zRb HO_324003 hb)
                        have BK343 := Aside0.mk (hbox)
                        have GW343 := (zq hg : Aside0 (w.heap.size ≤ gb343))
                        have GE343 := (zq hg : Aside0 (w.heap.size ≤ gb343))
                        replace HB := (zB hb)
                        have NB293_343 := (zl hg BK293 : Aside0 (gb293 ≠ gb343))
                        have NB343_293 := (zl' hg BK293 : Aside0 (gb343 ≠ gb293))
                        replace BK293 := (zK BK293 hb)
                        have NB300_343 := (zl hg BK300 : Aside0 (gb300 ≠ gb343))
                        have NB343_300 := (zl' hg BK300 : Aside0 (gb343 ≠ gb300))
                        replace BK300 := (zK BK300 hb)
                        have NB323_343 := (zl hg BK323 : Aside0 (gb323 ≠ gb343))
                        have NB343_323 := (zl' hg BK323 : Aside0 (gb343 ≠ gb323))
                        replace BK323 := (zK BK323 hb)
                        have NB327_343 := (zl hg BK327 : Aside0 (gb327 ≠ gb343))
                        have NB343_327 := (zl' hg BK327 : Aside0 (gb343 ≠ gb327))
                        replace BK327 := (zK BK327 hb)
                        clear hb hbox hg; refine hK.out _ _ ⟨(blk_cell BK300.out 0).trans rfl, (blk_cell BK300.out 1).trans rfl, (blk_cell BK300.out 2).trans rfl, (blk_cell BK300.out 3).trans rfl⟩ (fun hHeld => ?_); clear hK K; refine norm_ (a' := ?_) ?_ ?_; rotate_left
                        ·show Act.put _ (some 19) _ = _
                         simp only [Act.put, List.setIfInBounds_toArray, List.set_cons_zero, List.set_cons_succ, i64_w, i32_w]; rfl
                        exact zN (hJ11 (gb343) _ ⟨hHeld, (zR HO_12), (zR HO_301003), (zR HO_324003), (Cl.blk BK293.out), (Cl.blk BK300.out), (Cl.blk BK323.out), (Cl.blk BK327.out), (Cl.blk BK343.out), GW343.out, GE343.out, NB293_343.out, NB343_293.out, NB300_343.out, NB343_300.out, NB323_343.out, NB343_323.out, NB327_343.out, NB343_327.out, zb⟩)
                      ·skip
                       rintro gb343 w63 ⟨hS_, h0_, h1_, h2_, h3_, h4_, h5_, h6_, h7_, h8_, h9_, h10_, h11_, h12_, h13_, h14_, h15_, h16_, h17_, h18_⟩
                       replace HO_12 := (⟨h0_⟩ : Aside0 (Kd.R (Kd.int .i64) 3 w63 w.heap.size (fun _ => True) (.slice Ao36 t313.length co36) t313))
                       replace HO_301003 := (⟨h1_⟩ : Aside0 (Kd.R k26 26 w63 w.heap.size (fun k_ => some k_ ≠ (.slice Ao42 t319.length co42 : Value).ownBlock ∧ k_ ≠ gb293 ∧ k_ ≠ gb300 ∧ k_ ≠ gb323) (.slice Ao13 t297.length co13) t297))
                       replace HO_324003 := (⟨h2_⟩ : Aside0 (Kd.R k26 26 w63 w.heap.size (fun k_ => some k_ ≠ (.slice Ao13 t297.length co13 : Value).ownBlock ∧ k_ ≠ gb293 ∧ k_ ≠ gb300 ∧ k_ ≠ gb323) (.slice Ao42 t319.length co42) t319))
                       replace BK293 := (⟨h3_⟩ : Aside0 (w63.heap[gb293]? = some (.cells #[.int .i64 a0_0, .int .i64 a0_1, .string a0_2, .slice A0_3 l0_3.length c0_3] 26 (0, 0))))
                       replace BK300 := (⟨h4_⟩ : Aside0 (w63.heap[gb300]? = some (.cells #[.int .i64 t294, .int .i64 t295, .string t296, .slice Ao13 t297.length co13] 26 (0, 0))))
                       replace BK323 := (⟨h5_⟩ : Aside0 (w63.heap[gb323]? = some (.cells #[.int .i64 t316, .int .i64 t317, .string t318, .slice Ao42 t319.length co42] 26 (0, 0))))
                       replace BK327 := (⟨h6_⟩ : Aside0 (w63.heap[gb327]? = some (.cells #[.int .i64 t324, .int .i64 t325] 28 (0, 0))))
                       have BK343 := (⟨h7_⟩ : Aside0 (w63.heap[gb343]? = some (.cells #[.int .i64 0, .int .i64 0] 28 (0, 0))))
                       have GW343 := (⟨h8_⟩ : Aside0 (w.heap.size ≤ gb343))
                       have GE343 := (⟨h9_⟩ : Aside0 (w.heap.size ≤ gb343))
                       have NB293_343 := (⟨h10_⟩ : Aside0 (gb293 ≠ gb343))
                       have NB343_293 := (⟨h11_⟩ : Aside0 (gb343 ≠ gb293))
                       have NB300_343 := (⟨h12_⟩ : Aside0 (gb300 ≠ gb343))
                       have NB343_300 := (⟨h13_⟩ : Aside0 (gb343 ≠ gb300))
                       have NB323_343 := (⟨h14_⟩ : Aside0 (gb323 ≠ gb343))
                       have NB343_323 := (⟨h15_⟩ : Aside0 (gb343 ≠ gb323))
                       have NB327_343 := (⟨h16_⟩ : Aside0 (gb327 ≠ gb343))
                       have NB343_327 := (⟨h17_⟩ : Aside0 (gb343 ≠ gb327))
                       replace HB := (⟨h18_⟩ : Aside0 (Below w.heap.size w w63))
                       clear h0_ h1_ h2_ h3_ h4_ h5_ h6_ h7_ h8_ h9_ h10_ h11_ h12_ h13_ h14_ h15_ h16_ h17_ h18_; have hHeld : w63.cell? ⟨gb300, 0, none⟩ = some (.int .i64 t294) ∧ w63.cell? ⟨gb300, 1, none⟩ = some (.int .i64 t295) ∧ w63.cell? ⟨gb300, 2, none⟩ = some (.string t296) ∧ w63.cell? ⟨gb300, 3, none⟩ = some (.slice Ao13 t297.length co13) := hS_; refine norm_ (a' := ?_) ?_ ?_; rotate_left
                       ·simp only [putAll, Act.put, List.setIfInBounds_toArray, List.set_cons_zero, List.set_cons_succ]; rfl
                       refine two_ (i := 1) (j := 5) (Ni := some 94) (Nj := some 98) #[true, true, true, false, true, false, false, false, false, false, false, true, false, false] #[true, false, true, false, true, true, false, false, false, false, false, true, false, false] rfl rfl rfl rfl (two_of HT_.out (by kernel_rfl)) (by decide) (by decide) (fun K hK => ?_) (fun K hK => ?_)
                       ·skip
                        refine Kd.R_lit_step (Kd.int .i64) _ 3 ?hg (N := 94) ?hd (xs := ([] : List Int)) (inner := []) (ok := fun _ => True) (okp := fun _ => True) ?hr ?hp (fun _ hk => hk) trivial (Below.refl _ _) (Nat.le_refl _) (by simp) ?_; (case hd => rfl); (case hg => rfl); (case hr => first | (go_simp; done) | (go_simp; rfl)); (case hp => exact (Reps.none _ _)); intro v329 w64 ho65 hb hg_ hnew_; clear hg_ hnew_
                        (first | rw [← Ny328.out] at ho65 | (simp only [Int.reduceToNat] at ho65; rw [← Ny328.out] at ho65))
                        replace HO_301003 := (zRb HO_301003 hb)
                        replace HO_324003 := (zRb HO_324003 hb)
                        have HO330 := Aside0.mk (Kd.R_lower (Kd.R_new' ho65 (Kd.R_lt (zR HO_12))) (below_size zb)); replace HO_12 := Aside0.mk (Kd.R_elder' (zR HO_12) (Kd.R_base ho65) hb)
                        replace BK293 := (zK BK293 hb)
                        replace BK300 := (zK BK300 hb)
                        replace BK323 := (zK BK323 hb)
                        replace BK327 := (zK BK327 hb)
                        replace BK343 := (zK BK343 hb)
                        replace HB := (zB hb)
                        clear hb ho65; refine hK.out _ _ ⟨(blk_cell BK300.out 0).trans rfl, (blk_cell BK300.out 1).trans rfl, (blk_cell BK300.out 2).trans rfl, (blk_cell BK300.out 3).trans rfl⟩ (fun hHeld => ?_); clear hK K; refine norm_ (a' := ?_) ?_ ?_; rotate_left
                        ·show Act.put _ (some 94) _ = _
                         simp only [Act.put, List.setIfInBounds_toArray, List.set_cons_zero, List.set_cons_succ, i64_w, i32_w]; rfl
                        exact zN (hJ1_11 (v329, gb343) _ ⟨hHeld, (zRm HO330 (fun _ hk => hk.2)), (zRm HO_12 (fun _ hk => hk.2)), (zR HO_301003), (zR HO_324003), (Cl.blk BK293.out), (Cl.blk BK300.out), (Cl.blk BK323.out), (Cl.blk BK327.out), (Cl.blk BK343.out), GW343.out, GE343.out, NB293_343.out, NB343_293.out, NB300_343.out, NB343_300.out, NB323_343.out, NB343_323.out, NB327_343.out, NB343_327.out, zb⟩)
                       ·skip
                        refine Kd.R_lit_step (Kd.int .i64) _ 3 ?hg (N := 98) ?hd (xs := ([x18_2] : List Int)) (inner := [.int .i64 x18_2]) (ok := fun _ => True) (okp := fun _ => True) ?hr ?hp (fun _ hk => hk) trivial (Below.refl _ _) (Nat.le_refl _) (by simp) ?_; (case hd => rfl); (case hg => rfl); (case hr => first | (go_simp; done) | (go_simp; rfl)); (case hp => exact (Reps.one (show Kd.M (Kd.int .i64) _ _ _ x18_2 [.int .i64 x18_2] from rfl) (Reps.none _ _))); intro v335 w64 ho65 hb hg_ hnew_; clear hg_ hnew_
                        (first | rw [← Ny334.out] at ho65 | (simp only [Int.reduceToNat] at ho65; rw [← Ny334.out] at ho65))
                        replace HO_301003 := (zRb HO_301003 hb)
                        replace HO_324003 := (zRb HO_324003 hb)
                        have HO336 := Aside0.mk (Kd.R_lower (Kd.R_new' ho65 (Kd.R_lt (zR HO_12))) (below_size zb)); replace HO_12 := Aside0.mk (Kd.R_elder' (zR HO_12) (Kd.R_base ho65) hb)
                        replace BK293 := (zK BK293 hb)
                        replace BK300 := (zK BK300 hb)
                        replace BK323 := (zK BK323 hb)
                        replace BK327 := (zK BK327 hb)
                        replace BK343 := (zK BK343 hb)
                        replace HB := (zB hb)
                        clear hb ho65; refine hK.out _ _ ⟨(blk_cell BK300.out 0).trans rfl, (blk_cell BK300.out 1).trans rfl, (blk_cell BK300.out 2).trans rfl, (blk_cell BK300.out 3).trans rfl⟩ (fun hHeld => ?_); clear hK K; refine norm_ (a' := ?_) ?_ ?_; rotate_left
                        ·show Act.put _ (some 98) _ = _
                         simp only [Act.put, List.setIfInBounds_toArray, List.set_cons_zero, List.set_cons_succ, i64_w, i32_w]; rfl
                        exact zN (hJ5_11 (v335, gb343) _ ⟨hHeld, (zRm HO336 (fun _ hk => hk.2)), (zRm HO_12 (fun _ hk => hk.2)), (zR HO_301003), (zR HO_324003), (Cl.blk BK293.out), (Cl.blk BK300.out), (Cl.blk BK323.out), (Cl.blk BK327.out), (Cl.blk BK343.out), GW343.out, GE343.out, NB293_343.out, NB343_293.out, NB300_343.out, NB343_300.out, NB323_343.out, NB343_323.out, NB327_343.out, NB343_327.out, zb⟩)
                     ·skip
                      rintro v335 w64 ⟨hS_, h0_, h1_, h2_, h3_, h4_, h5_, h6_, h7_, h8_⟩
                      have HO336 := (⟨h0_⟩ : Aside0 (Kd.R (Kd.int .i64) 3 w64 w.heap.size (fun k_ => some k_ ≠ (.slice Ao36 t313.length co36 : Value).ownBlock) v335 y334))
                      replace HO_12 := (⟨h1_⟩ : Aside0 (Kd.R (Kd.int .i64) 3 w64 w.heap.size (fun k_ => some k_ ≠ (v335 : Value).ownBlock) (.slice Ao36 t313.length co36) t313))
                      replace HO_301003 := (⟨h2_⟩ : Aside0 (Kd.R k26 26 w64 w.heap.size (fun k_ => some k_ ≠ (.slice Ao42 t319.length co42 : Value).ownBlock ∧ k_ ≠ gb293 ∧ k_ ≠ gb300 ∧ k_ ≠ gb323) (.slice Ao13 t297.length co13) t297))
                      replace HO_324003 := (⟨h3_⟩ : Aside0 (Kd.R k26 26 w64 w.heap.size (fun k_ => some k_ ≠ (.slice Ao13 t297.length co13 : Value).ownBlock ∧ k_ ≠ gb293 ∧ k_ ≠ gb300 ∧ k_ ≠ gb323) (.slice Ao42 t319.length co42) t319))
                      replace BK293 := (⟨h4_⟩ : Aside0 (w64.heap[gb293]? = some (.cells #[.int .i64 a0_0, .int .i64 a0_1, .string a0_2, .slice A0_3 l0_3.length c0_3] 26 (0, 0))))
                      replace BK300 := (⟨h5_⟩ : Aside0 (w64.heap[gb300]? = some (.cells #[.int .i64 t294, .int .i64 t295, .string t296, .slice Ao13 t297.length co13] 26 (0, 0))))
                      replace BK323 := (⟨h6_⟩ : Aside0 (w64.heap[gb323]? = some (.cells #[.int .i64 t316, .int .i64 t317, .string t318, .slice Ao42 t319.length co42] 26 (0, 0))))
                      replace BK327 := (⟨h7_⟩ : Aside0 (w64.heap[gb327]? = some (.cells #[.int .i64 t324, .int .i64 t325] 28 (0, 0))))
                      replace HB := (⟨h8_⟩ : Aside0 (Below w.heap.size w w64))
                      clear h0_ h1_ h2_ h3_ h4_ h5_ h6_ h7_ h8_; have hHeld : w64.cell? ⟨gb300, 0, none⟩ = some (.int .i64 t294) ∧ w64.cell? ⟨gb300, 1, none⟩ = some (.int .i64 t295) ∧ w64.cell? ⟨gb300, 2, none⟩ = some (.string t296) ∧ w64.cell? ⟨gb300, 3, none⟩ = some (.slice Ao13 t297.length co13) := hS_; refine norm_ (a' := ?_) ?_ ?_; rotate_left
                      ·simp only [putAll, Act.put, List.setIfInBounds_toArray, List.set_cons_zero, List.set_cons_succ]; rfl
                      refine two_ (i := 1) (j := 11) (Ni := some 94) (Nj := some 19) #[true, true, true, false, true, true, false, false, false, false, false, false, false, false] #[true, false, true, false, true, true, false, false, false, false, false, true, false, false] rfl rfl rfl rfl (two_of HT_.out (by kernel_rfl)) (by decide) (by decide) (fun K hK => ?_) (fun K hK => ?_)
                      ·skip
                       refine Kd.R_lit_step (Kd.int .i64) _ 3 ?hg (N := 94) ?hd (xs := ([] : List Int)) (inner := []) (ok := fun _ => True) (okp := fun _ => True) ?hr ?hp (fun _ hk => hk) trivial (Below.refl _ _) (Nat.le_refl _) (by simp) ?_; (case hd => rfl); (case hg => rfl); (case hr => first | (go_simp; done) | (go_simp; rfl)); (case hp => exact (Reps.none _ _)); intro v329 w65 ho66 hb hg_ hnew_; clear hg_ hnew_
                       (first | rw [← Ny328.out] at ho66 | (simp only [Int.reduceToNat] at ho66; rw [← Ny328.out] at ho66))
                       replace HO_301003 := (zRb HO_301003 hb)
                       replace HO_324003 := (zRb HO_324003 hb)
                       have HO330 := Aside0.mk (Kd.R_lower (Kd.R_new' (Kd.R_new' ho66 (Kd.R_lt (zR HO_12))) (Kd.R_lt (zR HO336))) (below_size zb)); replace HO_12 := Aside0.mk (Kd.R_elder' (zR HO_12) (Kd.R_base ho66) hb); replace HO336 := Aside0.mk (Kd.R_elder' (zR HO336) (Kd.R_base ho66) hb)
                       replace BK293 := (zK BK293 hb)
                       replace BK300 := (zK BK300 hb)
                       replace BK323 := (zK BK323 hb)
                       replace BK327 := (zK BK327 hb)
                       replace HB := (zB hb)
                       clear hb ho66; refine hK.out _ _ ⟨(blk_cell BK300.out 0).trans rfl, (blk_cell BK300.out 1).trans rfl, (blk_cell BK300.out 2).trans rfl, (blk_cell BK300.out 3).trans rfl⟩ (fun hHeld => ?_); clear hK K; refine norm_ (a' := ?_) ?_ ?_; rotate_left
                       ·show Act.put _ (some 94) _ = _
                        simp only [Act.put, List.setIfInBounds_toArray, List.set_cons_zero, List.set_cons_succ, i64_w, i32_w]; rfl
                       exact zN (hJ1_5 (v329, v335) _ ⟨hHeld, (zRm HO330 (fun _ hk => ⟨hk.2, hk.1.2⟩)), (zRm HO336 (fun _ hk => ⟨hk.2, hk.1⟩)), (zRm HO_12 (fun _ hk => ⟨hk.2, hk.1⟩)), (zR HO_301003), (zR HO_324003), (Cl.blk BK293.out), (Cl.blk BK300.out), (Cl.blk BK323.out), (Cl.blk BK327.out), zb⟩)
                      ·skip
                       refine box_step ?hg (N := 19) ?hd (cs := #[.int .i64 0, .int .i64 0]) (t := 28) ?hr ?_; (case hd => rfl); (case hg => rfl); (case hr => first | (go_simp; done) | (go_simp; rfl)); intro gb343 hg w65 hbox hb
                       replace HO_12 := (zRb HO_12 hb)
                       replace HO_301003 := (zRb HO_301003 hb)
                       replace HO_324003 := (zRb HO_324003 hb)
                       replace HO336 := (zRb HO336 hb)
                       have BK343 := Aside0.mk (hbox)
                       have GW343 := (zq hg : Aside0 (w.heap.size ≤ gb343))
                       have GE343 := (zq hg : Aside0 (w.heap.size ≤ gb343))
                       replace HB := (zB hb)
                       have NB293_343 := (zl hg BK293 : Aside0 (gb293 ≠ gb343))
                       have NB343_293 := (zl' hg BK293 : Aside0 (gb343 ≠ gb293))
                       replace BK293 := (zK BK293 hb)
                       have NB300_343 := (zl hg BK300 : Aside0 (gb300 ≠ gb343))
                       have NB343_300 := (zl' hg BK300 : Aside0 (gb343 ≠ gb300))
                       replace BK300 := (zK BK300 hb)
                       have NB323_343 := (zl hg BK323 : Aside0 (gb323 ≠ gb343))
                       have NB343_323 := (zl' hg BK323 : Aside0 (gb343 ≠ gb323))
                       replace BK323 := (zK BK323 hb)
                       have NB327_343 := (zl hg BK327 : Aside0 (gb327 ≠ gb343))
                       have NB343_327 := (zl' hg BK327 : Aside0 (gb343 ≠ gb327))
                       replace BK327 := (zK BK327 hb)
                       clear hb hbox hg; refine hK.out _ _ ⟨(blk_cell BK300.out 0).trans rfl, (blk_cell BK300.out 1).trans rfl, (blk_cell BK300.out 2).trans rfl, (blk_cell BK300.out 3).trans rfl⟩ (fun hHeld => ?_); clear hK K; refine norm_ (a' := ?_) ?_ ?_; rotate_left
                       ·show Act.put _ (some 19) _ = _
                        simp only [Act.put, List.setIfInBounds_toArray, List.set_cons_zero, List.set_cons_succ, i64_w, i32_w]; rfl
                       exact zN (hJ5_11 (v335, gb343) _ ⟨hHeld, (zR HO336), (zR HO_12), (zR HO_301003), (zR HO_324003), (Cl.blk BK293.out), (Cl.blk BK300.out), (Cl.blk BK323.out), (Cl.blk BK327.out), (Cl.blk BK343.out), GW343.out, GE343.out, NB293_343.out, NB343_293.out, NB300_343.out, NB343_300.out, NB323_343.out, NB343_323.out, NB327_343.out, NB343_327.out, zb⟩)
                    ·skip
                     rintro v329 w64 ⟨hS_, h0_, h1_, h2_, h3_, h4_, h5_, h6_, h7_, h8_⟩
                     have HO330 := (⟨h0_⟩ : Aside0 (Kd.R (Kd.int .i64) 3 w64 w.heap.size (fun k_ => some k_ ≠ (.slice Ao36 t313.length co36 : Value).ownBlock) v329 y328))
                     replace HO_12 := (⟨h1_⟩ : Aside0 (Kd.R (Kd.int .i64) 3 w64 w.heap.size (fun k_ => some k_ ≠ (v329 : Value).ownBlock) (.slice Ao36 t313.length co36) t313))
                     replace HO_301003 := (⟨h2_⟩ : Aside0 (Kd.R k26 26 w64 w.heap.size (fun k_ => some k_ ≠ (.slice Ao42 t319.length co42 : Value).ownBlock ∧ k_ ≠ gb293 ∧ k_ ≠ gb300 ∧ k_ ≠ gb323) (.slice Ao13 t297.length co13) t297))
                     replace HO_324003 := (⟨h3_⟩ : Aside0 (Kd.R k26 26 w64 w.heap.size (fun k_ => some k_ ≠ (.slice Ao13 t297.length co13 : Value).ownBlock ∧ k_ ≠ gb293 ∧ k_ ≠ gb300 ∧ k_ ≠ gb323) (.slice Ao42 t319.length co42) t319))
                     replace BK293 := (⟨h4_⟩ : Aside0 (w64.heap[gb293]? = some (.cells #[.int .i64 a0_0, .int .i64 a0_1, .string a0_2, .slice A0_3 l0_3.length c0_3] 26 (0, 0))))
                     replace BK300 := (⟨h5_⟩ : Aside0 (w64.heap[gb300]? = some (.cells #[.int .i64 t294, .int .i64 t295, .string t296, .slice Ao13 t297.length co13] 26 (0, 0))))
                     replace BK323 := (⟨h6_⟩ : Aside0 (w64.heap[gb323]? = some (.cells #[.int .i64 t316, .int .i64 t317, .string t318, .slice Ao42 t319.length co42] 26 (0, 0))))
                     replace BK327 := (⟨h7_⟩ : Aside0 (w64.heap[gb327]? = some (.cells #[.int .i64 t324, .int .i64 t325] 28 (0, 0))))
                     replace HB := (⟨h8_⟩ : Aside0 (Below w.heap.size w w64))
                     clear h0_ h1_ h2_ h3_ h4_ h5_ h6_ h7_ h8_; have hHeld : w64.cell? ⟨gb300, 0, none⟩ = some (.int .i64 t294) ∧ w64.cell? ⟨gb300, 1, none⟩ = some (.int .i64 t295) ∧ w64.cell? ⟨gb300, 2, none⟩ = some (.string t296) ∧ w64.cell? ⟨gb300, 3, none⟩ = some (.slice Ao13 t297.length co13) := hS_; refine norm_ (a' := ?_) ?_ ?_; rotate_left
                     ·simp only [putAll, Act.put, List.setIfInBounds_toArray, List.set_cons_zero, List.set_cons_succ]; rfl
                     refine three_ (i := 3) (j := 5) (k := 11) (Ni := some 96) (Nj := some 98) (Nk := some 19) #[true, true, true, true, true, false, false, false, false, false, false, false, false, false] #[true, true, true, false, true, true, false, false, false, false, false, false, false, false] #[true, true, true, false, true, false, false, false, false, false, false, true, false, false] rfl rfl rfl rfl rfl rfl (three_of HT_.out (by kernel_rfl)) (by decide) (by decide) (by decide) (fun K hK => ?_) (fun K hK => ?_) (fun K hK => ?_)
                     ·skip
                      refine Kd.R_append_rows_step (Kd.int .i64) (w0 := w) w.heap.size (by rfl) (.tmp 94) (.tmp 95) 30 3 (.int .i64 0) 8 rfl Try.underlying30 info3 rfl (by decide) (by omega) v329 y328 t313 _ _ _ (fun k_ => some k_ ≠ (.slice Ao36 t313.length co36 : Value).ownBlock) (fun _ => False) rfl rfl ?aO ?aR (fun _ _ h => h) (fun _ h => h.elim) ?aF ?aB ?aS ?aL ?_
                      (case aR => exact zE' (Kd.R_reads' HO_12.out).2.2)
                      (case aB => exact zb)
                      (case aF => exact (fun k_ hk => Kd.fresh' (Kd.R_lt (zR HO_12)) k_ hk))
                      (case aO => exact (zR HO330))
                      (case aS => exact (below_size zb))
                      (case aL => have := LMc51.out; omega)
                      intro v332 w65 ho hb hg hat; rw [← Ny331.out] at ho; replace HO_12 := Aside0.mk (Kd.R_after (ok := (fun _ => True)) (zRm HO_12 (fun _ hk => ⟨trivial, hk⟩)) hg hat); replace HO_301003 := Aside0.mk (Kd.R_over' (zR HO_301003) (Kd.R_typed (zR HO330)) (by decide) hg); replace HO_324003 := Aside0.mk (Kd.R_over' (zR HO_324003) (Kd.R_typed (zR HO330)) (by decide) hg)
                      replace BK293 := (blk_grown' BK293 hg (Kd.R_ne HO330.out BK293.out (by decide)))
                      replace BK300 := (blk_grown' BK300 hg (Kd.R_ne HO330.out BK300.out (by decide)))
                      replace BK323 := (blk_grown' BK323 hg (Kd.R_ne HO330.out BK323.out (by decide)))
                      replace BK327 := (blk_grown' BK327 hg (Kd.R_ne HO330.out BK327.out (by decide)))
                      replace HB := Aside0.mk (hb); have HO333 := Aside0.mk (ho); clear HO330 ho hb hg hat; refine hK.out _ _ ⟨(blk_cell BK300.out 0).trans rfl, (blk_cell BK300.out 1).trans rfl, (blk_cell BK300.out 2).trans rfl, (blk_cell BK300.out 3).trans rfl⟩ (fun hHeld => ?_); clear hK K; refine norm_ (a' := ?_) ?_ ?_; rotate_left
                      ·show Act.put _ (some 96) _ = _
                       simp only [Act.put, List.setIfInBounds_toArray, List.set_cons_zero, List.set_cons_succ, i64_w, i32_w]; rfl
                      exact zN (hJ1_3 (v329, v332) _ ⟨hHeld, (zR HO333), (zRm HO_12 (fun _ hk => hk.2)), (zR HO_301003), (zR HO_324003), (Cl.blk BK293.out), (Cl.blk BK300.out), (Cl.blk BK323.out), (Cl.blk BK327.out), zb⟩)
                     ·skip
                      refine Kd.R_lit_step (Kd.int .i64) _ 3 ?hg (N := 98) ?hd (xs := ([x18_2] : List Int)) (inner := [.int .i64 x18_2]) (ok := fun _ => True) (okp := fun _ => True) ?hr ?hp (fun _ hk => hk) trivial (Below.refl _ _) (Nat.le_refl _) (by simp) ?_; (case hd => rfl); (case hg => rfl); (case hr => first | (go_simp; done) | (go_simp; rfl)); (case hp => exact (Reps.one (show Kd.M (Kd.int .i64) _ _ _ x18_2 [.int .i64 x18_2] from rfl) (Reps.none _ _))); intro v335 w65 ho66 hb hg_ hnew_; clear hg_ hnew_
                      (first | rw [← Ny334.out] at ho66 | (simp only [Int.reduceToNat] at ho66; rw [← Ny334.out] at ho66))
                      replace HO_301003 := (zRb HO_301003 hb)
                      replace HO_324003 := (zRb HO_324003 hb)
                      have HO336 := Aside0.mk (Kd.R_lower (Kd.R_new' (Kd.R_new' ho66 (Kd.R_lt (zR HO_12))) (Kd.R_lt (zR HO330))) (below_size zb)); replace HO_12 := Aside0.mk (Kd.R_elder' (zR HO_12) (Kd.R_base ho66) hb); replace HO330 := Aside0.mk (Kd.R_elder' (zR HO330) (Kd.R_base ho66) hb)
                      replace BK293 := (zK BK293 hb)
                      replace BK300 := (zK BK300 hb)
                      replace BK323 := (zK BK323 hb)
                      replace BK327 := (zK BK327 hb)
                      replace HB := (zB hb)
                      clear hb ho66; refine hK.out _ _ ⟨(blk_cell BK300.out 0).trans rfl, (blk_cell BK300.out 1).trans rfl, (blk_cell BK300.out 2).trans rfl, (blk_cell BK300.out 3).trans rfl⟩ (fun hHeld => ?_); clear hK K; refine norm_ (a' := ?_) ?_ ?_; rotate_left
                      ·show Act.put _ (some 98) _ = _
                       simp only [Act.put, List.setIfInBounds_toArray, List.set_cons_zero, List.set_cons_succ, i64_w, i32_w]; rfl
                      exact zN (hJ1_5 (v329, v335) _ ⟨hHeld, (zRm HO330 (fun _ hk => ⟨hk.2, hk.1⟩)), (zRm HO336 (fun _ hk => ⟨hk.2, hk.1.2⟩)), (zR HO_12), (zR HO_301003), (zR HO_324003), (Cl.blk BK293.out), (Cl.blk BK300.out), (Cl.blk BK323.out), (Cl.blk BK327.out), zb⟩)
                     ·skip
                      refine box_step ?hg (N := 19) ?hd (cs := #[.int .i64 0, .int .i64 0]) (t := 28) ?hr ?_; (case hd => rfl); (case hg => rfl); (case hr => first | (go_simp; done) | (go_simp; rfl)); intro gb343 hg w65 hbox hb
                      replace HO_12 := (zRb HO_12 hb)
                      replace HO_301003 := (zRb HO_301003 hb)
                      replace HO_324003 := (zRb HO_324003 hb)
                      replace HO330 := (zRb HO330 hb)
                      have BK343 := Aside0.mk (hbox)
                      have GW343 := (zq hg : Aside0 (w.heap.size ≤ gb343))
                      have GE343 := (zq hg : Aside0 (w.heap.size ≤ gb343))
                      replace HB := (zB hb)
                      have NB293_343 := (zl hg BK293 : Aside0 (gb293 ≠ gb343))
                      have NB343_293 := (zl' hg BK293 : Aside0 (gb343 ≠ gb293))
                      replace BK293 := (zK BK293 hb)
                      have NB300_343 := (zl hg BK300 : Aside0 (gb300 ≠ gb343))
                      have NB343_300 := (zl' hg BK300 : Aside0 (gb343 ≠ gb300))
                      replace BK300 := (zK BK300 hb)
                      have NB323_343 := (zl hg BK323 : Aside0 (gb323 ≠ gb343))
                      have NB343_323 := (zl' hg BK323 : Aside0 (gb343 ≠ gb323))
                      replace BK323 := (zK BK323 hb)
                      have NB327_343 := (zl hg BK327 : Aside0 (gb327 ≠ gb343))
                      have NB343_327 := (zl' hg BK327 : Aside0 (gb343 ≠ gb327))
                      replace BK327 := (zK BK327 hb)
                      clear hb hbox hg; refine hK.out _ _ ⟨(blk_cell BK300.out 0).trans rfl, (blk_cell BK300.out 1).trans rfl, (blk_cell BK300.out 2).trans rfl, (blk_cell BK300.out 3).trans rfl⟩ (fun hHeld => ?_); clear hK K; refine norm_ (a' := ?_) ?_ ?_; rotate_left
                      ·show Act.put _ (some 19) _ = _
                       simp only [Act.put, List.setIfInBounds_toArray, List.set_cons_zero, List.set_cons_succ, i64_w, i32_w]; rfl
                      exact zN (hJ1_11 (v329, gb343) _ ⟨hHeld, (zR HO330), (zR HO_12), (zR HO_301003), (zR HO_324003), (Cl.blk BK293.out), (Cl.blk BK300.out), (Cl.blk BK323.out), (Cl.blk BK327.out), (Cl.blk BK343.out), GW343.out, GE343.out, NB293_343.out, NB343_293.out, NB300_343.out, NB343_300.out, NB323_343.out, NB343_323.out, NB327_343.out, NB343_327.out, zb⟩)
                   ·skip
                    rintro ⟨v335, gb343⟩ w65 ⟨hS_, h0_, h1_, h2_, h3_, h4_, h5_, h6_, h7_, h8_, h9_, h10_, h11_, h12_, h13_, h14_, h15_, h16_, h17_, h18_, h19_⟩
                    have HO336 := (⟨h0_⟩ : Aside0 (Kd.R (Kd.int .i64) 3 w65 w.heap.size (fun k_ => some k_ ≠ (.slice Ao36 t313.length co36 : Value).ownBlock) v335 y334))
                    replace HO_12 := (⟨h1_⟩ : Aside0 (Kd.R (Kd.int .i64) 3 w65 w.heap.size (fun k_ => some k_ ≠ (v335 : Value).ownBlock) (.slice Ao36 t313.length co36) t313))
                    replace HO_301003 := (⟨h2_⟩ : Aside0 (Kd.R k26 26 w65 w.heap.size (fun k_ => some k_ ≠ (.slice Ao42 t319.length co42 : Value).ownBlock ∧ k_ ≠ gb293 ∧ k_ ≠ gb300 ∧ k_ ≠ gb323) (.slice Ao13 t297.length co13) t297))
                    replace HO_324003 := (⟨h3_⟩ : Aside0 (Kd.R k26 26 w65 w.heap.size (fun k_ => some k_ ≠ (.slice Ao13 t297.length co13 : Value).ownBlock ∧ k_ ≠ gb293 ∧ k_ ≠ gb300 ∧ k_ ≠ gb323) (.slice Ao42 t319.length co42) t319))
                    replace BK293 := (⟨h4_⟩ : Aside0 (w65.heap[gb293]? = some (.cells #[.int .i64 a0_0, .int .i64 a0_1, .string a0_2, .slice A0_3 l0_3.length c0_3] 26 (0, 0))))
                    replace BK300 := (⟨h5_⟩ : Aside0 (w65.heap[gb300]? = some (.cells #[.int .i64 t294, .int .i64 t295, .string t296, .slice Ao13 t297.length co13] 26 (0, 0))))
                    replace BK323 := (⟨h6_⟩ : Aside0 (w65.heap[gb323]? = some (.cells #[.int .i64 t316, .int .i64 t317, .string t318, .slice Ao42 t319.length co42] 26 (0, 0))))
                    replace BK327 := (⟨h7_⟩ : Aside0 (w65.heap[gb327]? = some (.cells #[.int .i64 t324, .int .i64 t325] 28 (0, 0))))
                    have BK343 := (⟨h8_⟩ : Aside0 (w65.heap[gb343]? = some (.cells #[.int .i64 0, .int .i64 0] 28 (0, 0))))
                    have GW343 := (⟨h9_⟩ : Aside0 (w.heap.size ≤ gb343))
                    have GE343 := (⟨h10_⟩ : Aside0 (w.heap.size ≤ gb343))
                    have NB293_343 := (⟨h11_⟩ : Aside0 (gb293 ≠ gb343))
                    have NB343_293 := (⟨h12_⟩ : Aside0 (gb343 ≠ gb293))
                    have NB300_343 := (⟨h13_⟩ : Aside0 (gb300 ≠ gb343))
                    have NB343_300 := (⟨h14_⟩ : Aside0 (gb343 ≠ gb300))
                    have NB323_343 := (⟨h15_⟩ : Aside0 (gb323 ≠ gb343))
                    have NB343_323 := (⟨h16_⟩ : Aside0 (gb343 ≠ gb323))
                    have NB327_343 := (⟨h17_⟩ : Aside0 (gb327 ≠ gb343))
                    have NB343_327 := (⟨h18_⟩ : Aside0 (gb343 ≠ gb327))
                    replace HB := (⟨h19_⟩ : Aside0 (Below w.heap.size w w65))
                    clear h0_ h1_ h2_ h3_ h4_ h5_ h6_ h7_ h8_ h9_ h10_ h11_ h12_ h13_ h14_ h15_ h16_ h17_ h18_ h19_; have hHeld : w65.cell? ⟨gb300, 0, none⟩ = some (.int .i64 t294) ∧ w65.cell? ⟨gb300, 1, none⟩ = some (.int .i64 t295) ∧ w65.cell? ⟨gb300, 2, none⟩ = some (.string t296) ∧ w65.cell? ⟨gb300, 3, none⟩ = some (.slice Ao13 t297.length co13) := hS_; refine norm_ (a' := ?_) ?_ ?_; rotate_left
                    ·simp only [putAll, Act.put, List.setIfInBounds_toArray, List.set_cons_zero, List.set_cons_succ]; rfl
                    refine one_ (i := 1) (N := some 94) #[true, true, true, false, true, true, false, false, false, false, false, true, false, false] rfl rfl (one_of HT_.out (by kernel_rfl)) (by decide) (fun K hK => ?_); refine Kd.R_lit_step (Kd.int .i64) _ 3 ?hg (N := 94) ?hd (xs := ([] : List Int)) (inner := []) (ok := fun _ => True) (okp := fun _ => True) ?hr ?hp (fun _ hk => hk) trivial (Below.refl _ _) (Nat.le_refl _) (by simp) ?_; (case hd => rfl); (case hg => rfl); (case hr => first | (go_simp; done) | (go_simp; rfl)); (case hp => exact (Reps.none _ _)); intro v329 w66 ho67 hb hg_ hnew_; clear hg_ hnew_
                    (first | rw [← Ny328.out] at ho67 | (simp only [Int.reduceToNat] at ho67; rw [← Ny328.out] at ho67))
                    replace HO_301003 := (zRb HO_301003 hb)
                    replace HO_324003 := (zRb HO_324003 hb)
                    have HO330 := Aside0.mk (Kd.R_lower (Kd.R_new' (Kd.R_new' ho67 (Kd.R_lt (zR HO_12))) (Kd.R_lt (zR HO336))) (below_size zb)); replace HO_12 := Aside0.mk (Kd.R_elder' (zR HO_12) (Kd.R_base ho67) hb); replace HO336 := Aside0.mk (Kd.R_elder' (zR HO336) (Kd.R_base ho67) hb)
                    replace BK293 := (zK BK293 hb)
                    replace BK300 := (zK BK300 hb)
                    replace BK323 := (zK BK323 hb)
                    replace BK327 := (zK BK327 hb)
                    replace BK343 := (zK BK343 hb)
                    replace HB := (zB hb)
                    clear hb ho67; refine hK.out _ _ ⟨(blk_cell BK300.out 0).trans rfl, (blk_cell BK300.out 1).trans rfl, (blk_cell BK300.out 2).trans rfl, (blk_cell BK300.out 3).trans rfl⟩ (fun hHeld => ?_); clear hK K; refine norm_ (a' := ?_) ?_ ?_; rotate_left
                    ·show Act.put _ (some 94) _ = _
                     simp only [Act.put, List.setIfInBounds_toArray, List.set_cons_zero, List.set_cons_succ, i64_w, i32_w]; rfl
                    exact zN (hJ1_5_11 (v329, v335, gb343) _ ⟨hHeld, (zRm HO330 (fun _ hk => ⟨hk.2, hk.1.2⟩)), (zRm HO336 (fun _ hk => ⟨hk.2, hk.1⟩)), (zRm HO_12 (fun _ hk => ⟨hk.2, hk.1⟩)), (zR HO_301003), (zR HO_324003), (Cl.blk BK293.out), (Cl.blk BK300.out), (Cl.blk BK323.out), (Cl.blk BK327.out), (Cl.blk BK343.out), GW343.out, GE343.out, NB293_343.out, NB343_293.out, NB300_343.out, NB343_300.out, NB323_343.out, NB343_323.out, NB327_343.out, NB343_327.out, zb⟩)
                  ·skip
                   rintro ⟨v329, gb343⟩ w65 ⟨hS_, h0_, h1_, h2_, h3_, h4_, h5_, h6_, h7_, h8_, h9_, h10_, h11_, h12_, h13_, h14_, h15_, h16_, h17_, h18_, h19_⟩
                   have HO330 := (⟨h0_⟩ : Aside0 (Kd.R (Kd.int .i64) 3 w65 w.heap.size (fun k_ => some k_ ≠ (.slice Ao36 t313.length co36 : Value).ownBlock) v329 y328))
                   replace HO_12 := (⟨h1_⟩ : Aside0 (Kd.R (Kd.int .i64) 3 w65 w.heap.size (fun k_ => some k_ ≠ (v329 : Value).ownBlock) (.slice Ao36 t313.length co36) t313))
                   replace HO_301003 := (⟨h2_⟩ : Aside0 (Kd.R k26 26 w65 w.heap.size (fun k_ => some k_ ≠ (.slice Ao42 t319.length co42 : Value).ownBlock ∧ k_ ≠ gb293 ∧ k_ ≠ gb300 ∧ k_ ≠ gb323) (.slice Ao13 t297.length co13) t297))
                   replace HO_324003 := (⟨h3_⟩ : Aside0 (Kd.R k26 26 w65 w.heap.size (fun k_ => some k_ ≠ (.slice Ao13 t297.length co13 : Value).ownBlock ∧ k_ ≠ gb293 ∧ k_ ≠ gb300 ∧ k_ ≠ gb323) (.slice Ao42 t319.length co42) t319))
                   replace BK293 := (⟨h4_⟩ : Aside0 (w65.heap[gb293]? = some (.cells #[.int .i64 a0_0, .int .i64 a0_1, .string a0_2, .slice A0_3 l0_3.length c0_3] 26 (0, 0))))
                   replace BK300 := (⟨h5_⟩ : Aside0 (w65.heap[gb300]? = some (.cells #[.int .i64 t294, .int .i64 t295, .string t296, .slice Ao13 t297.length co13] 26 (0, 0))))
                   replace BK323 := (⟨h6_⟩ : Aside0 (w65.heap[gb323]? = some (.cells #[.int .i64 t316, .int .i64 t317, .string t318, .slice Ao42 t319.length co42] 26 (0, 0))))
                   replace BK327 := (⟨h7_⟩ : Aside0 (w65.heap[gb327]? = some (.cells #[.int .i64 t324, .int .i64 t325] 28 (0, 0))))
                   have BK343 := (⟨h8_⟩ : Aside0 (w65.heap[gb343]? = some (.cells #[.int .i64 0, .int .i64 0] 28 (0, 0))))
                   have GW343 := (⟨h9_⟩ : Aside0 (w.heap.size ≤ gb343))
                   have GE343 := (⟨h10_⟩ : Aside0 (w.heap.size ≤ gb343))
                   have NB293_343 := (⟨h11_⟩ : Aside0 (gb293 ≠ gb343))
                   have NB343_293 := (⟨h12_⟩ : Aside0 (gb343 ≠ gb293))
                   have NB300_343 := (⟨h13_⟩ : Aside0 (gb300 ≠ gb343))
                   have NB343_300 := (⟨h14_⟩ : Aside0 (gb343 ≠ gb300))
                   have NB323_343 := (⟨h15_⟩ : Aside0 (gb323 ≠ gb343))
                   have NB343_323 := (⟨h16_⟩ : Aside0 (gb343 ≠ gb323))
                   have NB327_343 := (⟨h17_⟩ : Aside0 (gb327 ≠ gb343))
                   have NB343_327 := (⟨h18_⟩ : Aside0 (gb343 ≠ gb327))
                   replace HB := (⟨h19_⟩ : Aside0 (Below w.heap.size w w65))
                   clear h0_ h1_ h2_ h3_ h4_ h5_ h6_ h7_ h8_ h9_ h10_ h11_ h12_ h13_ h14_ h15_ h16_ h17_ h18_ h19_; have hHeld : w65.cell? ⟨gb300, 0, none⟩ = some (.int .i64 t294) ∧ w65.cell? ⟨gb300, 1, none⟩ = some (.int .i64 t295) ∧ w65.cell? ⟨gb300, 2, none⟩ = some (.string t296) ∧ w65.cell? ⟨gb300, 3, none⟩ = some (.slice Ao13 t297.length co13) := hS_; refine norm_ (a' := ?_) ?_ ?_; rotate_left
                   ·simp only [putAll, Act.put, List.setIfInBounds_toArray, List.set_cons_zero, List.set_cons_succ]; rfl
                   refine two_ (i := 3) (j := 5) (Ni := some 96) (Nj := some 98) #[true, true, true, true, true, false, false, false, false, false, false, true, false, false] #[true, true, true, false, true, true, false, false, false, false, false, true, false, false] rfl rfl rfl rfl (two_of HT_.out (by kernel_rfl)) (by decide) (by decide) (fun K hK => ?_) (fun K hK => ?_)
                   ·skip
                    refine Kd.R_append_rows_step (Kd.int .i64) (w0 := w) w.heap.size (by rfl) (.tmp 94) (.tmp 95) 30 3 (.int .i64 0) 8 rfl Try.underlying30 info3 rfl (by decide) (by omega) v329 y328 t313 _ _ _ (fun k_ => some k_ ≠ (.slice Ao36 t313.length co36 : Value).ownBlock) (fun _ => False) rfl rfl ?aO ?aR (fun _ _ h => h) (fun _ h => h.elim) ?aF ?aB ?aS ?aL ?_
                    (case aR => exact zE' (Kd.R_reads' HO_12.out).2.2)
                    (case aB => exact zb)
                    (case aF => exact (fun k_ hk => Kd.fresh' (Kd.R_lt (zR HO_12)) k_ hk))
                    (case aO => exact (zR HO330))
                    (case aS => exact (below_size zb))
                    (case aL => have := LMc51.out; omega)
                    intro v332 w66 ho hb hg hat; rw [← Ny331.out] at ho; replace HO_12 := Aside0.mk (Kd.R_after (ok := (fun _ => True)) (zRm HO_12 (fun _ hk => ⟨trivial, hk⟩)) hg hat); replace HO_301003 := Aside0.mk (Kd.R_over' (zR HO_301003) (Kd.R_typed (zR HO330)) (by decide) hg); replace HO_324003 := Aside0.mk (Kd.R_over' (zR HO_324003) (Kd.R_typed (zR HO330)) (by decide) hg)
                    replace BK293 := (blk_grown' BK293 hg (Kd.R_ne HO330.out BK293.out (by decide)))
                    replace BK300 := (blk_grown' BK300 hg (Kd.R_ne HO330.out BK300.out (by decide)))
                    replace BK323 := (blk_grown' BK323 hg (Kd.R_ne HO330.out BK323.out (by decide)))
                    replace BK327 := (blk_grown' BK327 hg (Kd.R_ne HO330.out BK327.out (by decide)))
                    replace BK343 := (blk_grown' BK343 hg (Kd.R_ne HO330.out BK343.out (by decide)))
                    replace HB := Aside0.mk (hb); have HO333 := Aside0.mk (ho); clear HO330 ho hb hg hat; refine hK.out _ _ ⟨(blk_cell BK300.out 0).trans rfl, (blk_cell BK300.out 1).trans rfl, (blk_cell BK300.out 2).trans rfl, (blk_cell BK300.out 3).trans rfl⟩ (fun hHeld => ?_); clear hK K; refine norm_ (a' := ?_) ?_ ?_; rotate_left
                    ·show Act.put _ (some 96) _ = _
                     simp only [Act.put, List.setIfInBounds_toArray, List.set_cons_zero, List.set_cons_succ, i64_w, i32_w]; rfl
                    exact zN (hJ1_3_11 (v329, v332, gb343) _ ⟨hHeld, (zR HO333), (zRm HO_12 (fun _ hk => hk.2)), (zR HO_301003), (zR HO_324003), (Cl.blk BK293.out), (Cl.blk BK300.out), (Cl.blk BK323.out), (Cl.blk BK327.out), (Cl.blk BK343.out), GW343.out, GE343.out, NB293_343.out, NB343_293.out, NB300_343.out, NB343_300.out, NB323_343.out, NB343_323.out, NB327_343.out, NB343_327.out, zb⟩)
                   ·skip
                    refine Kd.R_lit_step (Kd.int .i64) _ 3 ?hg (N := 98) ?hd (xs := ([x18_2] : List Int)) (inner := [.int .i64 x18_2]) (ok := fun _ => True) (okp := fun _ => True) ?hr ?hp (fun _ hk => hk) trivial (Below.refl _ _) (Nat.le_refl _) (by simp) ?_; (case hd => rfl); (case hg => rfl); (case hr => first | (go_simp; done) | (go_simp; rfl)); (case hp => exact (Reps.one (show Kd.M (Kd.int .i64) _ _ _ x18_2 [.int .i64 x18_2] from rfl) (Reps.none _ _))); intro v335 w66 ho67 hb hg_ hnew_; clear hg_ hnew_
                    (first | rw [← Ny334.out] at ho67 | (simp only [Int.reduceToNat] at ho67; rw [← Ny334.out] at ho67))
                    replace HO_301003 := (zRb HO_301003 hb)
                    replace HO_324003 := (zRb HO_324003 hb)
                    have HO336 := Aside0.mk (Kd.R_lower (Kd.R_new' (Kd.R_new' ho67 (Kd.R_lt (zR HO_12))) (Kd.R_lt (zR HO330))) (below_size zb)); replace HO_12 := Aside0.mk (Kd.R_elder' (zR HO_12) (Kd.R_base ho67) hb); replace HO330 := Aside0.mk (Kd.R_elder' (zR HO330) (Kd.R_base ho67) hb)
                    replace BK293 := (zK BK293 hb)
                    replace BK300 := (zK BK300 hb)
                    replace BK323 := (zK BK323 hb)
                    replace BK327 := (zK BK327 hb)
                    replace BK343 := (zK BK343 hb)
                    replace HB := (zB hb)
                    clear hb ho67; refine hK.out _ _ ⟨(blk_cell BK300.out 0).trans rfl, (blk_cell BK300.out 1).trans rfl, (blk_cell BK300.out 2).trans rfl, (blk_cell BK300.out 3).trans rfl⟩ (fun hHeld => ?_); clear hK K; refine norm_ (a' := ?_) ?_ ?_; rotate_left
                    ·show Act.put _ (some 98) _ = _
                     simp only [Act.put, List.setIfInBounds_toArray, List.set_cons_zero, List.set_cons_succ, i64_w, i32_w]; rfl
                    exact zN (hJ1_5_11 (v329, v335, gb343) _ ⟨hHeld, (zRm HO330 (fun _ hk => ⟨hk.2, hk.1⟩)), (zRm HO336 (fun _ hk => ⟨hk.2, hk.1.2⟩)), (zR HO_12), (zR HO_301003), (zR HO_324003), (Cl.blk BK293.out), (Cl.blk BK300.out), (Cl.blk BK323.out), (Cl.blk BK327.out), (Cl.blk BK343.out), GW343.out, GE343.out, NB293_343.out, NB343_293.out, NB300_343.out, NB343_300.out, NB323_343.out, NB343_323.out, NB327_343.out, NB343_327.out, zb⟩)
                 ·skip
                  rintro ⟨v329, v335⟩ w66 ⟨hS_, h0_, h1_, h2_, h3_, h4_, h5_, h6_, h7_, h8_, h9_⟩
                  have HO330 := (⟨h0_⟩ : Aside0 (Kd.R (Kd.int .i64) 3 w66 w.heap.size (fun k_ => some k_ ≠ (v335 : Value).ownBlock ∧ some k_ ≠ (.slice Ao36 t313.length co36 : Value).ownBlock) v329 y328))
                  have HO336 := (⟨h1_⟩ : Aside0 (Kd.R (Kd.int .i64) 3 w66 w.heap.size (fun k_ => some k_ ≠ (v329 : Value).ownBlock ∧ some k_ ≠ (.slice Ao36 t313.length co36 : Value).ownBlock) v335 y334))
                  replace HO_12 := (⟨h2_⟩ : Aside0 (Kd.R (Kd.int .i64) 3 w66 w.heap.size (fun k_ => some k_ ≠ (v329 : Value).ownBlock ∧ some k_ ≠ (v335 : Value).ownBlock) (.slice Ao36 t313.length co36) t313))
                  replace HO_301003 := (⟨h3_⟩ : Aside0 (Kd.R k26 26 w66 w.heap.size (fun k_ => some k_ ≠ (.slice Ao42 t319.length co42 : Value).ownBlock ∧ k_ ≠ gb293 ∧ k_ ≠ gb300 ∧ k_ ≠ gb323) (.slice Ao13 t297.length co13) t297))
                  replace HO_324003 := (⟨h4_⟩ : Aside0 (Kd.R k26 26 w66 w.heap.size (fun k_ => some k_ ≠ (.slice Ao13 t297.length co13 : Value).ownBlock ∧ k_ ≠ gb293 ∧ k_ ≠ gb300 ∧ k_ ≠ gb323) (.slice Ao42 t319.length co42) t319))
                  replace BK293 := (⟨h5_⟩ : Aside0 (w66.heap[gb293]? = some (.cells #[.int .i64 a0_0, .int .i64 a0_1, .string a0_2, .slice A0_3 l0_3.length c0_3] 26 (0, 0))))
                  replace BK300 := (⟨h6_⟩ : Aside0 (w66.heap[gb300]? = some (.cells #[.int .i64 t294, .int .i64 t295, .string t296, .slice Ao13 t297.length co13] 26 (0, 0))))
                  replace BK323 := (⟨h7_⟩ : Aside0 (w66.heap[gb323]? = some (.cells #[.int .i64 t316, .int .i64 t317, .string t318, .slice Ao42 t319.length co42] 26 (0, 0))))
                  replace BK327 := (⟨h8_⟩ : Aside0 (w66.heap[gb327]? = some (.cells #[.int .i64 t324, .int .i64 t325] 28 (0, 0))))
                  replace HB := (⟨h9_⟩ : Aside0 (Below w.heap.size w w66))
                  clear h0_ h1_ h2_ h3_ h4_ h5_ h6_ h7_ h8_ h9_; have hHeld : w66.cell? ⟨gb300, 0, none⟩ = some (.int .i64 t294) ∧ w66.cell? ⟨gb300, 1, none⟩ = some (.int .i64 t295) ∧ w66.cell? ⟨gb300, 2, none⟩ = some (.string t296) ∧ w66.cell? ⟨gb300, 3, none⟩ = some (.slice Ao13 t297.length co13) := hS_; refine norm_ (a' := ?_) ?_ ?_; rotate_left
                  ·simp only [putAll, Act.put, List.setIfInBounds_toArray, List.set_cons_zero, List.set_cons_succ]; rfl
                  refine two_ (i := 3) (j := 11) (Ni := some 96) (Nj := some 19) #[true, true, true, true, true, true, false, false, false, false, false, false, false, false] #[true, true, true, false, true, true, false, false, false, false, false, true, false, false] rfl rfl rfl rfl (two_of HT_.out (by kernel_rfl)) (by decide) (by decide) (fun K hK => ?_) (fun K hK => ?_)
                  ·skip
                   refine Kd.R_append_rows_step (Kd.int .i64) (w0 := w) w.heap.size (by rfl) (.tmp 94) (.tmp 95) 30 3 (.int .i64 0) 8 rfl Try.underlying30 info3 rfl (by decide) (by omega) v329 y328 t313 _ _ _ (fun k_ => some k_ ≠ (.slice Ao36 t313.length co36 : Value).ownBlock ∧ some k_ ≠ (v335 : Value).ownBlock) (fun _ => False) rfl rfl ?aO ?aR (fun _ _ h => h) (fun _ h => h.elim) ?aF ?aB ?aS ?aL ?_
                   (case aR => exact zE' (Kd.R_reads' HO_12.out).2.2)
                   (case aB => exact zb)
                   (case aF => exact (fun k_ hk => ⟨Kd.fresh' (Kd.R_lt (zR HO_12)) k_ hk, Kd.fresh' (Kd.R_lt (zR HO336)) k_ hk⟩))
                   (case aO => exact (zRm HO330 (fun _ hk => ⟨hk.2, hk.1⟩)))
                   (case aS => exact (below_size zb))
                   (case aL => have := LMc51.out; omega)
                   intro v332 w67 ho hb hg hat; rw [← Ny331.out] at ho; replace HO_12 := Aside0.mk (Kd.R_after (ok := (fun k_ => some k_ ≠ (v335 : Value).ownBlock)) (zRm HO_12 (fun _ hk => ⟨hk.2, hk.1⟩)) hg hat); replace HO_301003 := Aside0.mk (Kd.R_over' (zR HO_301003) (Kd.R_typed (zR HO330)) (by decide) hg); replace HO_324003 := Aside0.mk (Kd.R_over' (zR HO_324003) (Kd.R_typed (zR HO330)) (by decide) hg)
                   replace BK293 := (blk_grown' BK293 hg (Kd.R_ne HO330.out BK293.out (by decide)))
                   replace BK300 := (blk_grown' BK300 hg (Kd.R_ne HO330.out BK300.out (by decide)))
                   replace BK323 := (blk_grown' BK323 hg (Kd.R_ne HO330.out BK323.out (by decide)))
                   replace BK327 := (blk_grown' BK327 hg (Kd.R_ne HO330.out BK327.out (by decide)))
                   replace HO336 := Aside0.mk (Kd.R_after (ok := (fun k_ => some k_ ≠ (.slice Ao36 t313.length co36 : Value).ownBlock)) (zRm HO336 (fun _ hk => ⟨hk.2, hk.1⟩)) hg hat); replace HB := Aside0.mk (hb); have HO333 := Aside0.mk (ho); clear HO330 ho hb hg hat; refine hK.out _ _ ⟨(blk_cell BK300.out 0).trans rfl, (blk_cell BK300.out 1).trans rfl, (blk_cell BK300.out 2).trans rfl, (blk_cell BK300.out 3).trans rfl⟩ (fun hHeld => ?_); clear hK K; refine norm_ (a' := ?_) ?_ ?_; rotate_left
                   ·show Act.put _ (some 96) _ = _
                    simp only [Act.put, List.setIfInBounds_toArray, List.set_cons_zero, List.set_cons_succ, i64_w, i32_w]; rfl
                   exact zN (hJ1_3_5 (v329, v332, v335) _ ⟨hHeld, (zRm HO333 (fun _ hk => ⟨hk.2, hk.1⟩)), (zRm HO336 (fun _ hk => ⟨hk.2, hk.1⟩)), (zRm HO_12 (fun _ hk => ⟨hk.2, hk.1⟩)), (zR HO_301003), (zR HO_324003), (Cl.blk BK293.out), (Cl.blk BK300.out), (Cl.blk BK323.out), (Cl.blk BK327.out), zb⟩)
                  ·skip
                   refine box_step ?hg (N := 19) ?hd (cs := #[.int .i64 0, .int .i64 0]) (t := 28) ?hr ?_; (case hd => rfl); (case hg => rfl); (case hr => first | (go_simp; done) | (go_simp; rfl)); intro gb343 hg w67 hbox hb
                   replace HO_12 := (zRb HO_12 hb)
                   replace HO_301003 := (zRb HO_301003 hb)
                   replace HO_324003 := (zRb HO_324003 hb)
                   replace HO330 := (zRb HO330 hb)
                   replace HO336 := (zRb HO336 hb)
                   have BK343 := Aside0.mk (hbox)
                   have GW343 := (zq hg : Aside0 (w.heap.size ≤ gb343))
                   have GE343 := (zq hg : Aside0 (w.heap.size ≤ gb343))
                   replace HB := (zB hb)
                   have NB293_343 := (zl hg BK293 : Aside0 (gb293 ≠ gb343))
                   have NB343_293 := (zl' hg BK293 : Aside0 (gb343 ≠ gb293))
                   replace BK293 := (zK BK293 hb)
                   have NB300_343 := (zl hg BK300 : Aside0 (gb300 ≠ gb343))
                   have NB343_300 := (zl' hg BK300 : Aside0 (gb343 ≠ gb300))
                   replace BK300 := (zK BK300 hb)
                   have NB323_343 := (zl hg BK323 : Aside0 (gb323 ≠ gb343))
                   have NB343_323 := (zl' hg BK323 : Aside0 (gb343 ≠ gb323))
                   replace BK323 := (zK BK323 hb)
                   have NB327_343 := (zl hg BK327 : Aside0 (gb327 ≠ gb343))
                   have NB343_327 := (zl' hg BK327 : Aside0 (gb343 ≠ gb327))
                   replace BK327 := (zK BK327 hb)
                   clear hb hbox hg; refine hK.out _ _ ⟨(blk_cell BK300.out 0).trans rfl, (blk_cell BK300.out 1).trans rfl, (blk_cell BK300.out 2).trans rfl, (blk_cell BK300.out 3).trans rfl⟩ (fun hHeld => ?_); clear hK K; refine norm_ (a' := ?_) ?_ ?_; rotate_left
                   ·show Act.put _ (some 19) _ = _
                    simp only [Act.put, List.setIfInBounds_toArray, List.set_cons_zero, List.set_cons_succ, i64_w, i32_w]; rfl
                   exact zN (hJ1_5_11 (v329, v335, gb343) _ ⟨hHeld, (zR HO330), (zR HO336), (zR HO_12), (zR HO_301003), (zR HO_324003), (Cl.blk BK293.out), (Cl.blk BK300.out), (Cl.blk BK323.out), (Cl.blk BK327.out), (Cl.blk BK343.out), GW343.out, GE343.out, NB293_343.out, NB343_293.out, NB300_343.out, NB343_300.out, NB323_343.out, NB343_323.out, NB327_343.out, NB343_327.out, zb⟩)
                ·skip
                 rintro ⟨v329, v332⟩ w65 ⟨hS_, h0_, h1_, h2_, h3_, h4_, h5_, h6_, h7_, h8_⟩
                 have HO333 := (⟨h0_⟩ : Aside0 (Kd.R (Kd.int .i64) 3 w65 w.heap.size (fun k_ => some k_ ≠ (.slice Ao36 t313.length co36 : Value).ownBlock) v332 y331))
                 replace HO_12 := (⟨h1_⟩ : Aside0 (Kd.R (Kd.int .i64) 3 w65 w.heap.size (fun k_ => some k_ ≠ (v332 : Value).ownBlock) (.slice Ao36 t313.length co36) t313))
                 replace HO_301003 := (⟨h2_⟩ : Aside0 (Kd.R k26 26 w65 w.heap.size (fun k_ => some k_ ≠ (.slice Ao42 t319.length co42 : Value).ownBlock ∧ k_ ≠ gb293 ∧ k_ ≠ gb300 ∧ k_ ≠ gb323) (.slice Ao13 t297.length co13) t297))
                 replace HO_324003 := (⟨h3_⟩ : Aside0 (Kd.R k26 26 w65 w.heap.size (fun k_ => some k_ ≠ (.slice Ao13 t297.length co13 : Value).ownBlock ∧ k_ ≠ gb293 ∧ k_ ≠ gb300 ∧ k_ ≠ gb323) (.slice Ao42 t319.length co42) t319))
                 replace BK293 := (⟨h4_⟩ : Aside0 (w65.heap[gb293]? = some (.cells #[.int .i64 a0_0, .int .i64 a0_1, .string a0_2, .slice A0_3 l0_3.length c0_3] 26 (0, 0))))
                 replace BK300 := (⟨h5_⟩ : Aside0 (w65.heap[gb300]? = some (.cells #[.int .i64 t294, .int .i64 t295, .string t296, .slice Ao13 t297.length co13] 26 (0, 0))))
                 replace BK323 := (⟨h6_⟩ : Aside0 (w65.heap[gb323]? = some (.cells #[.int .i64 t316, .int .i64 t317, .string t318, .slice Ao42 t319.length co42] 26 (0, 0))))
                 replace BK327 := (⟨h7_⟩ : Aside0 (w65.heap[gb327]? = some (.cells #[.int .i64 t324, .int .i64 t325] 28 (0, 0))))
                 replace HB := (⟨h8_⟩ : Aside0 (Below w.heap.size w w65))
                 clear h0_ h1_ h2_ h3_ h4_ h5_ h6_ h7_ h8_; have hHeld : w65.cell? ⟨gb300, 0, none⟩ = some (.int .i64 t294) ∧ w65.cell? ⟨gb300, 1, none⟩ = some (.int .i64 t295) ∧ w65.cell? ⟨gb300, 2, none⟩ = some (.string t296) ∧ w65.cell? ⟨gb300, 3, none⟩ = some (.slice Ao13 t297.length co13) := hS_; refine norm_ (a' := ?_) ?_ ?_; rotate_left
                 ·simp only [putAll, Act.put, List.setIfInBounds_toArray, List.set_cons_zero, List.set_cons_succ]; rfl
                 refine two_ (i := 5) (j := 11) (Ni := some 98) (Nj := some 19) #[true, true, true, true, true, true, false, false, false, false, false, false, false, false] #[true, true, true, true, true, false, false, false, false, false, false, true, false, false] rfl rfl rfl rfl (two_of HT_.out (by kernel_rfl)) (by decide) (by decide) (fun K hK => ?_) (fun K hK => ?_)
                 ·skip
                  refine Kd.R_lit_step (Kd.int .i64) _ 3 ?hg (N := 98) ?hd (xs := ([x18_2] : List Int)) (inner := [.int .i64 x18_2]) (ok := fun _ => True) (okp := fun _ => True) ?hr ?hp (fun _ hk => hk) trivial (Below.refl _ _) (Nat.le_refl _) (by simp) ?_; (case hd => rfl); (case hg => rfl); (case hr => first | (go_simp; done) | (go_simp; rfl)); (case hp => exact (Reps.one (show Kd.M (Kd.int .i64) _ _ _ x18_2 [.int .i64 x18_2] from rfl) (Reps.none _ _))); intro v335 w66 ho67 hb hg_ hnew_; clear hg_ hnew_
                  (first | rw [← Ny334.out] at ho67 | (simp only [Int.reduceToNat] at ho67; rw [← Ny334.out] at ho67))
                  replace HO_301003 := (zRb HO_301003 hb)
                  replace HO_324003 := (zRb HO_324003 hb)
                  have HO336 := Aside0.mk (Kd.R_lower (Kd.R_new' (Kd.R_new' ho67 (Kd.R_lt (zR HO_12))) (Kd.R_lt (zR HO333))) (below_size zb)); replace HO_12 := Aside0.mk (Kd.R_elder' (zR HO_12) (Kd.R_base ho67) hb); replace HO333 := Aside0.mk (Kd.R_elder' (zR HO333) (Kd.R_base ho67) hb)
                  replace BK293 := (zK BK293 hb)
                  replace BK300 := (zK BK300 hb)
                  replace BK323 := (zK BK323 hb)
                  replace BK327 := (zK BK327 hb)
                  replace HB := (zB hb)
                  clear hb ho67; refine hK.out _ _ ⟨(blk_cell BK300.out 0).trans rfl, (blk_cell BK300.out 1).trans rfl, (blk_cell BK300.out 2).trans rfl, (blk_cell BK300.out 3).trans rfl⟩ (fun hHeld => ?_); clear hK K; refine norm_ (a' := ?_) ?_ ?_; rotate_left
                  ·show Act.put _ (some 98) _ = _
                   simp only [Act.put, List.setIfInBounds_toArray, List.set_cons_zero, List.set_cons_succ, i64_w, i32_w]; rfl
                  exact zN (hJ1_3_5 (v329, v332, v335) _ ⟨hHeld, (zRm HO333 (fun _ hk => ⟨hk.2, hk.1⟩)), (zRm HO336 (fun _ hk => ⟨hk.2, hk.1.2⟩)), (zR HO_12), (zR HO_301003), (zR HO_324003), (Cl.blk BK293.out), (Cl.blk BK300.out), (Cl.blk BK323.out), (Cl.blk BK327.out), zb⟩)
                 ·skip
                  refine box_step ?hg (N := 19) ?hd (cs := #[.int .i64 0, .int .i64 0]) (t := 28) ?hr ?_; (case hd => rfl); (case hg => rfl); (case hr => first | (go_simp; done) | (go_simp; rfl)); intro gb343 hg w66 hbox hb
                  replace HO_12 := (zRb HO_12 hb)
                  replace HO_301003 := (zRb HO_301003 hb)
                  replace HO_324003 := (zRb HO_324003 hb)
                  replace HO333 := (zRb HO333 hb)
                  have BK343 := Aside0.mk (hbox)
                  have GW343 := (zq hg : Aside0 (w.heap.size ≤ gb343))
                  have GE343 := (zq hg : Aside0 (w.heap.size ≤ gb343))
                  replace HB := (zB hb)
                  have NB293_343 := (zl hg BK293 : Aside0 (gb293 ≠ gb343))
                  have NB343_293 := (zl' hg BK293 : Aside0 (gb343 ≠ gb293))
                  replace BK293 := (zK BK293 hb)
                  have NB300_343 := (zl hg BK300 : Aside0 (gb300 ≠ gb343))
                  have NB343_300 := (zl' hg BK300 : Aside0 (gb343 ≠ gb300))
                  replace BK300 := (zK BK300 hb)
                  have NB323_343 := (zl hg BK323 : Aside0 (gb323 ≠ gb343))
                  have NB343_323 := (zl' hg BK323 : Aside0 (gb343 ≠ gb323))
                  replace BK323 := (zK BK323 hb)
                  have NB327_343 := (zl hg BK327 : Aside0 (gb327 ≠ gb343))
                  have NB343_327 := (zl' hg BK327 : Aside0 (gb343 ≠ gb327))
                  replace BK327 := (zK BK327 hb)
                  clear hb hbox hg; refine hK.out _ _ ⟨(blk_cell BK300.out 0).trans rfl, (blk_cell BK300.out 1).trans rfl, (blk_cell BK300.out 2).trans rfl, (blk_cell BK300.out 3).trans rfl⟩ (fun hHeld => ?_); clear hK K; refine norm_ (a' := ?_) ?_ ?_; rotate_left
                  ·show Act.put _ (some 19) _ = _
                   simp only [Act.put, List.setIfInBounds_toArray, List.set_cons_zero, List.set_cons_succ, i64_w, i32_w]; rfl
                  exact zN (hJ1_3_11 (v329, v332, gb343) _ ⟨hHeld, (zR HO333), (zR HO_12), (zR HO_301003), (zR HO_324003), (Cl.blk BK293.out), (Cl.blk BK300.out), (Cl.blk BK323.out), (Cl.blk BK327.out), (Cl.blk BK343.out), GW343.out, GE343.out, NB293_343.out, NB343_293.out, NB300_343.out, NB343_300.out, NB323_343.out, NB343_323.out, NB327_343.out, NB343_327.out, zb⟩)
               ·skip
                rintro ⟨v329, v335, gb343⟩ w67 ⟨hS_, h0_, h1_, h2_, h3_, h4_, h5_, h6_, h7_, h8_, h9_, h10_, h11_, h12_, h13_, h14_, h15_, h16_, h17_, h18_, h19_, h20_⟩
                have HO330 := (⟨h0_⟩ : Aside0 (Kd.R (Kd.int .i64) 3 w67 w.heap.size (fun k_ => some k_ ≠ (v335 : Value).ownBlock ∧ some k_ ≠ (.slice Ao36 t313.length co36 : Value).ownBlock) v329 y328))
                have HO336 := (⟨h1_⟩ : Aside0 (Kd.R (Kd.int .i64) 3 w67 w.heap.size (fun k_ => some k_ ≠ (v329 : Value).ownBlock ∧ some k_ ≠ (.slice Ao36 t313.length co36 : Value).ownBlock) v335 y334))
                replace HO_12 := (⟨h2_⟩ : Aside0 (Kd.R (Kd.int .i64) 3 w67 w.heap.size (fun k_ => some k_ ≠ (v329 : Value).ownBlock ∧ some k_ ≠ (v335 : Value).ownBlock) (.slice Ao36 t313.length co36) t313))
                replace HO_301003 := (⟨h3_⟩ : Aside0 (Kd.R k26 26 w67 w.heap.size (fun k_ => some k_ ≠ (.slice Ao42 t319.length co42 : Value).ownBlock ∧ k_ ≠ gb293 ∧ k_ ≠ gb300 ∧ k_ ≠ gb323) (.slice Ao13 t297.length co13) t297))
                replace HO_324003 := (⟨h4_⟩ : Aside0 (Kd.R k26 26 w67 w.heap.size (fun k_ => some k_ ≠ (.slice Ao13 t297.length co13 : Value).ownBlock ∧ k_ ≠ gb293 ∧ k_ ≠ gb300 ∧ k_ ≠ gb323) (.slice Ao42 t319.length co42) t319))
                replace BK293 := (⟨h5_⟩ : Aside0 (w67.heap[gb293]? = some (.cells #[.int .i64 a0_0, .int .i64 a0_1, .string a0_2, .slice A0_3 l0_3.length c0_3] 26 (0, 0))))
                replace BK300 := (⟨h6_⟩ : Aside0 (w67.heap[gb300]? = some (.cells #[.int .i64 t294, .int .i64 t295, .string t296, .slice Ao13 t297.length co13] 26 (0, 0))))
                replace BK323 := (⟨h7_⟩ : Aside0 (w67.heap[gb323]? = some (.cells #[.int .i64 t316, .int .i64 t317, .string t318, .slice Ao42 t319.length co42] 26 (0, 0))))
                replace BK327 := (⟨h8_⟩ : Aside0 (w67.heap[gb327]? = some (.cells #[.int .i64 t324, .int .i64 t325] 28 (0, 0))))
                have BK343 := (⟨h9_⟩ : Aside0 (w67.heap[gb343]? = some (.cells #[.int .i64 0, .int .i64 0] 28 (0, 0))))
                have GW343 := (⟨h10_⟩ : Aside0 (w.heap.size ≤ gb343))
                have GE343 := (⟨h11_⟩ : Aside0 (w.heap.size ≤ gb343))
                have NB293_343 := (⟨h12_⟩ : Aside0 (gb293 ≠ gb343))
                have NB343_293 := (⟨h13_⟩ : Aside0 (gb343 ≠ gb293))
                have NB300_343 := (⟨h14_⟩ : Aside0 (gb300 ≠ gb343))
                have NB343_300 := (⟨h15_⟩ : Aside0 (gb343 ≠ gb300))
                have NB323_343 := (⟨h16_⟩ : Aside0 (gb323 ≠ gb343))
                have NB343_323 := (⟨h17_⟩ : Aside0 (gb343 ≠ gb323))
                have NB327_343 := (⟨h18_⟩ : Aside0 (gb327 ≠ gb343))
                have NB343_327 := (⟨h19_⟩ : Aside0 (gb343 ≠ gb327))
                replace HB := (⟨h20_⟩ : Aside0 (Below w.heap.size w w67))
                clear h0_ h1_ h2_ h3_ h4_ h5_ h6_ h7_ h8_ h9_ h10_ h11_ h12_ h13_ h14_ h15_ h16_ h17_ h18_ h19_ h20_; have hHeld : w67.cell? ⟨gb300, 0, none⟩ = some (.int .i64 t294) ∧ w67.cell? ⟨gb300, 1, none⟩ = some (.int .i64 t295) ∧ w67.cell? ⟨gb300, 2, none⟩ = some (.string t296) ∧ w67.cell? ⟨gb300, 3, none⟩ = some (.slice Ao13 t297.length co13) := hS_; refine norm_ (a' := ?_) ?_ ?_; rotate_left
                ·simp only [putAll, Act.put, List.setIfInBounds_toArray, List.set_cons_zero, List.set_cons_succ]; rfl
                refine one_ (i := 3) (N := some 96) #[true, true, true, true, true, true, false, false, false, false, false, true, false, false] rfl rfl (one_of HT_.out (by kernel_rfl)) (by decide) (fun K hK => ?_); refine Kd.R_append_rows_step (Kd.int .i64) (w0 := w) w.heap.size (by rfl) (.tmp 94) (.tmp 95) 30 3 (.int .i64 0) 8 rfl Try.underlying30 info3 rfl (by decide) (by omega) v329 y328 t313 _ _ _ (fun k_ => some k_ ≠ (.slice Ao36 t313.length co36 : Value).ownBlock ∧ some k_ ≠ (v335 : Value).ownBlock) (fun _ => False) rfl rfl ?aO ?aR (fun _ _ h => h) (fun _ h => h.elim) ?aF ?aB ?aS ?aL ?_
                (case aR => exact zE' (Kd.R_reads' HO_12.out).2.2)
                (case aB => exact zb)
                (case aF => exact (fun k_ hk => ⟨Kd.fresh' (Kd.R_lt (zR HO_12)) k_ hk, Kd.fresh' (Kd.R_lt (zR HO336)) k_ hk⟩))
                (case aO => exact (zRm HO330 (fun _ hk => ⟨hk.2, hk.1⟩)))
                (case aS => exact (below_size zb))
                (case aL => have := LMc51.out; omega)
                intro v332 w68 ho hb hg hat; rw [← Ny331.out] at ho; replace HO_12 := Aside0.mk (Kd.R_after (ok := (fun k_ => some k_ ≠ (v335 : Value).ownBlock)) (zRm HO_12 (fun _ hk => ⟨hk.2, hk.1⟩)) hg hat); replace HO_301003 := Aside0.mk (Kd.R_over' (zR HO_301003) (Kd.R_typed (zR HO330)) (by decide) hg); replace HO_324003 := Aside0.mk (Kd.R_over' (zR HO_324003) (Kd.R_typed (zR HO330)) (by decide) hg)
                replace BK293 := (blk_grown' BK293 hg (Kd.R_ne HO330.out BK293.out (by decide)))
                replace BK300 := (blk_grown' BK300 hg (Kd.R_ne HO330.out BK300.out (by decide)))
                replace BK323 := (blk_grown' BK323 hg (Kd.R_ne HO330.out BK323.out (by decide)))
                replace BK327 := (blk_grown' BK327 hg (Kd.R_ne HO330.out BK327.out (by decide)))
                replace HO336 := Aside0.mk (Kd.R_after (ok := (fun k_ => some k_ ≠ (.slice Ao36 t313.length co36 : Value).ownBlock)) (zRm HO336 (fun _ hk => ⟨hk.2, hk.1⟩)) hg hat)
                replace BK343 := (blk_grown' BK343 hg (Kd.R_ne HO330.out BK343.out (by decide)))
                replace HB := Aside0.mk (hb); have HO333 := Aside0.mk (ho); clear HO330 ho hb hg hat; refine hK.out _ _ ⟨(blk_cell BK300.out 0).trans rfl, (blk_cell BK300.out 1).trans rfl, (blk_cell BK300.out 2).trans rfl, (blk_cell BK300.out 3).trans rfl⟩ (fun hHeld => ?_); clear hK K; refine norm_ (a' := ?_) ?_ ?_; rotate_left
                ·show Act.put _ (some 96) _ = _
                 simp only [Act.put, List.setIfInBounds_toArray, List.set_cons_zero, List.set_cons_succ, i64_w, i32_w]; rfl
                exact zN (hJ1_3_5_11 (v329, v332, v335, gb343) _ ⟨hHeld, (zRm HO333 (fun _ hk => ⟨hk.2, hk.1⟩)), (zRm HO336 (fun _ hk => ⟨hk.2, hk.1⟩)), (zRm HO_12 (fun _ hk => ⟨hk.2, hk.1⟩)), (zR HO_301003), (zR HO_324003), (Cl.blk BK293.out), (Cl.blk BK300.out), (Cl.blk BK323.out), (Cl.blk BK327.out), (Cl.blk BK343.out), GW343.out, GE343.out, NB293_343.out, NB343_293.out, NB300_343.out, NB343_300.out, NB323_343.out, NB343_323.out, NB327_343.out, NB343_327.out, zb⟩)
              ·skip
               rintro ⟨v329, v332, gb343⟩ w66 ⟨hS_, h0_, h1_, h2_, h3_, h4_, h5_, h6_, h7_, h8_, h9_, h10_, h11_, h12_, h13_, h14_, h15_, h16_, h17_, h18_, h19_⟩
               have HO333 := (⟨h0_⟩ : Aside0 (Kd.R (Kd.int .i64) 3 w66 w.heap.size (fun k_ => some k_ ≠ (.slice Ao36 t313.length co36 : Value).ownBlock) v332 y331))
               replace HO_12 := (⟨h1_⟩ : Aside0 (Kd.R (Kd.int .i64) 3 w66 w.heap.size (fun k_ => some k_ ≠ (v332 : Value).ownBlock) (.slice Ao36 t313.length co36) t313))
               replace HO_301003 := (⟨h2_⟩ : Aside0 (Kd.R k26 26 w66 w.heap.size (fun k_ => some k_ ≠ (.slice Ao42 t319.length co42 : Value).ownBlock ∧ k_ ≠ gb293 ∧ k_ ≠ gb300 ∧ k_ ≠ gb323) (.slice Ao13 t297.length co13) t297))
               replace HO_324003 := (⟨h3_⟩ : Aside0 (Kd.R k26 26 w66 w.heap.size (fun k_ => some k_ ≠ (.slice Ao13 t297.length co13 : Value).ownBlock ∧ k_ ≠ gb293 ∧ k_ ≠ gb300 ∧ k_ ≠ gb323) (.slice Ao42 t319.length co42) t319))
               replace BK293 := (⟨h4_⟩ : Aside0 (w66.heap[gb293]? = some (.cells #[.int .i64 a0_0, .int .i64 a0_1, .string a0_2, .slice A0_3 l0_3.length c0_3] 26 (0, 0))))
               replace BK300 := (⟨h5_⟩ : Aside0 (w66.heap[gb300]? = some (.cells #[.int .i64 t294, .int .i64 t295, .string t296, .slice Ao13 t297.length co13] 26 (0, 0))))
               replace BK323 := (⟨h6_⟩ : Aside0 (w66.heap[gb323]? = some (.cells #[.int .i64 t316, .int .i64 t317, .string t318, .slice Ao42 t319.length co42] 26 (0, 0))))
               replace BK327 := (⟨h7_⟩ : Aside0 (w66.heap[gb327]? = some (.cells #[.int .i64 t324, .int .i64 t325] 28 (0, 0))))
               have BK343 := (⟨h8_⟩ : Aside0 (w66.heap[gb343]? = some (.cells #[.int .i64 0, .int .i64 0] 28 (0, 0))))
               have GW343 := (⟨h9_⟩ : Aside0 (w.heap.size ≤ gb343))
               have GE343 := (⟨h10_⟩ : Aside0 (w.heap.size ≤ gb343))
               have NB293_343 := (⟨h11_⟩ : Aside0 (gb293 ≠ gb343))
               have NB343_293 := (⟨h12_⟩ : Aside0 (gb343 ≠ gb293))
               have NB300_343 := (⟨h13_⟩ : Aside0 (gb300 ≠ gb343))
               have NB343_300 := (⟨h14_⟩ : Aside0 (gb343 ≠ gb300))
               have NB323_343 := (⟨h15_⟩ : Aside0 (gb323 ≠ gb343))
               have NB343_323 := (⟨h16_⟩ : Aside0 (gb343 ≠ gb323))
               have NB327_343 := (⟨h17_⟩ : Aside0 (gb327 ≠ gb343))
               have NB343_327 := (⟨h18_⟩ : Aside0 (gb343 ≠ gb327))
               replace HB := (⟨h19_⟩ : Aside0 (Below w.heap.size w w66))
               clear h0_ h1_ h2_ h3_ h4_ h5_ h6_ h7_ h8_ h9_ h10_ h11_ h12_ h13_ h14_ h15_ h16_ h17_ h18_ h19_; have hHeld : w66.cell? ⟨gb300, 0, none⟩ = some (.int .i64 t294) ∧ w66.cell? ⟨gb300, 1, none⟩ = some (.int .i64 t295) ∧ w66.cell? ⟨gb300, 2, none⟩ = some (.string t296) ∧ w66.cell? ⟨gb300, 3, none⟩ = some (.slice Ao13 t297.length co13) := hS_; refine norm_ (a' := ?_) ?_ ?_; rotate_left
               ·simp only [putAll, Act.put, List.setIfInBounds_toArray, List.set_cons_zero, List.set_cons_succ]; rfl
               refine one_ (i := 5) (N := some 98) #[true, true, true, true, true, true, false, false, false, false, false, true, false, false] rfl rfl (one_of HT_.out (by kernel_rfl)) (by decide) (fun K hK => ?_); refine Kd.R_lit_step (Kd.int .i64) _ 3 ?hg (N := 98) ?hd (xs := ([x18_2] : List Int)) (inner := [.int .i64 x18_2]) (ok := fun _ => True) (okp := fun _ => True) ?hr ?hp (fun _ hk => hk) trivial (Below.refl _ _) (Nat.le_refl _) (by simp) ?_; (case hd => rfl); (case hg => rfl); (case hr => first | (go_simp; done) | (go_simp; rfl)); (case hp => exact (Reps.one (show Kd.M (Kd.int .i64) _ _ _ x18_2 [.int .i64 x18_2] from rfl) (Reps.none _ _))); intro v335 w67 ho68 hb hg_ hnew_; clear hg_ hnew_
               (first | rw [← Ny334.out] at ho68 | (simp only [Int.reduceToNat] at ho68; rw [← Ny334.out] at ho68))
               replace HO_301003 := (zRb HO_301003 hb)
               replace HO_324003 := (zRb HO_324003 hb)
               have HO336 := Aside0.mk (Kd.R_lower (Kd.R_new' (Kd.R_new' ho68 (Kd.R_lt (zR HO_12))) (Kd.R_lt (zR HO333))) (below_size zb)); replace HO_12 := Aside0.mk (Kd.R_elder' (zR HO_12) (Kd.R_base ho68) hb); replace HO333 := Aside0.mk (Kd.R_elder' (zR HO333) (Kd.R_base ho68) hb)
               replace BK293 := (zK BK293 hb)
               replace BK300 := (zK BK300 hb)
               replace BK323 := (zK BK323 hb)
               replace BK327 := (zK BK327 hb)
               replace BK343 := (zK BK343 hb)
               replace HB := (zB hb)
               clear hb ho68; refine hK.out _ _ ⟨(blk_cell BK300.out 0).trans rfl, (blk_cell BK300.out 1).trans rfl, (blk_cell BK300.out 2).trans rfl, (blk_cell BK300.out 3).trans rfl⟩ (fun hHeld => ?_); clear hK K; refine norm_ (a' := ?_) ?_ ?_; rotate_left
               ·show Act.put _ (some 98) _ = _
                simp only [Act.put, List.setIfInBounds_toArray, List.set_cons_zero, List.set_cons_succ, i64_w, i32_w]; rfl
               exact zN (hJ1_3_5_11 (v329, v332, v335, gb343) _ ⟨hHeld, (zRm HO333 (fun _ hk => ⟨hk.2, hk.1⟩)), (zRm HO336 (fun _ hk => ⟨hk.2, hk.1.2⟩)), (zR HO_12), (zR HO_301003), (zR HO_324003), (Cl.blk BK293.out), (Cl.blk BK300.out), (Cl.blk BK323.out), (Cl.blk BK327.out), (Cl.blk BK343.out), GW343.out, GE343.out, NB293_343.out, NB343_293.out, NB300_343.out, NB343_300.out, NB323_343.out, NB343_323.out, NB327_343.out, NB343_327.out, zb⟩)
             ·skip
              rintro ⟨v329, v332, v335⟩ w67 ⟨hS_, h0_, h1_, h2_, h3_, h4_, h5_, h6_, h7_, h8_, h9_⟩
              have HO333 := (⟨h0_⟩ : Aside0 (Kd.R (Kd.int .i64) 3 w67 w.heap.size (fun k_ => some k_ ≠ (v335 : Value).ownBlock ∧ some k_ ≠ (.slice Ao36 t313.length co36 : Value).ownBlock) v332 y331))
              have HO336 := (⟨h1_⟩ : Aside0 (Kd.R (Kd.int .i64) 3 w67 w.heap.size (fun k_ => some k_ ≠ (v332 : Value).ownBlock ∧ some k_ ≠ (.slice Ao36 t313.length co36 : Value).ownBlock) v335 y334))
              replace HO_12 := (⟨h2_⟩ : Aside0 (Kd.R (Kd.int .i64) 3 w67 w.heap.size (fun k_ => some k_ ≠ (v332 : Value).ownBlock ∧ some k_ ≠ (v335 : Value).ownBlock) (.slice Ao36 t313.length co36) t313))
              replace HO_301003 := (⟨h3_⟩ : Aside0 (Kd.R k26 26 w67 w.heap.size (fun k_ => some k_ ≠ (.slice Ao42 t319.length co42 : Value).ownBlock ∧ k_ ≠ gb293 ∧ k_ ≠ gb300 ∧ k_ ≠ gb323) (.slice Ao13 t297.length co13) t297))
              replace HO_324003 := (⟨h4_⟩ : Aside0 (Kd.R k26 26 w67 w.heap.size (fun k_ => some k_ ≠ (.slice Ao13 t297.length co13 : Value).ownBlock ∧ k_ ≠ gb293 ∧ k_ ≠ gb300 ∧ k_ ≠ gb323) (.slice Ao42 t319.length co42) t319))
              replace BK293 := (⟨h5_⟩ : Aside0 (w67.heap[gb293]? = some (.cells #[.int .i64 a0_0, .int .i64 a0_1, .string a0_2, .slice A0_3 l0_3.length c0_3] 26 (0, 0))))
              replace BK300 := (⟨h6_⟩ : Aside0 (w67.heap[gb300]? = some (.cells #[.int .i64 t294, .int .i64 t295, .string t296, .slice Ao13 t297.length co13] 26 (0, 0))))
              replace BK323 := (⟨h7_⟩ : Aside0 (w67.heap[gb323]? = some (.cells #[.int .i64 t316, .int .i64 t317, .string t318, .slice Ao42 t319.length co42] 26 (0, 0))))
              replace BK327 := (⟨h8_⟩ : Aside0 (w67.heap[gb327]? = some (.cells #[.int .i64 t324, .int .i64 t325] 28 (0, 0))))
              replace HB := (⟨h9_⟩ : Aside0 (Below w.heap.size w w67))
              clear h0_ h1_ h2_ h3_ h4_ h5_ h6_ h7_ h8_ h9_; have hHeld : w67.cell? ⟨gb300, 0, none⟩ = some (.int .i64 t294) ∧ w67.cell? ⟨gb300, 1, none⟩ = some (.int .i64 t295) ∧ w67.cell? ⟨gb300, 2, none⟩ = some (.string t296) ∧ w67.cell? ⟨gb300, 3, none⟩ = some (.slice Ao13 t297.length co13) := hS_; obtain ⟨Ao69, co69, eo69⟩ := Kd.R_slice HO336.out
              (first | subst eo69 | (injection eo69 with f1_ f2_ f3_; have f4_ := f1_.symm; have f5_ := f3_.symm; clear f1_ f2_ f3_; subst f4_; subst f5_))
              refine norm_ (a' := ?_) ?_ ?_; rotate_left
              ·simp only [putAll, Act.put, List.setIfInBounds_toArray, List.set_cons_zero, List.set_cons_succ]; rfl
              refine two_ (i := 6) (j := 11) (Ni := some 99) (Nj := some 19) #[true, true, true, true, true, true, true, false, false, false, false, false, false, false] #[true, true, true, true, true, true, false, false, false, false, false, true, false, false] rfl rfl rfl rfl (two_of HT_.out (by kernel_rfl)) (by decide) (by decide) (fun K hK => ?_) (fun K hK => ?_)
              ·skip
               refine Kd.R_append_rows_step (Kd.int .i64) (w0 := w) w.heap.size (by rfl) (.tmp 96) (.tmp 98) 30 3 (.int .i64 0) 8 rfl Try.underlying30 info3 rfl (by decide) (by omega) v332 y331 y334 _ _ _ (fun k_ => some k_ ≠ (.slice Ao36 t313.length co36 : Value).ownBlock ∧ some k_ ≠ (.slice Ao69 y334.length co69 : Value).ownBlock) (fun _ => False) rfl rfl ?aO ?aR (fun _ _ h => h) (fun _ h => h.elim) ?aF ?aB ?aS ?aL ?_
               (case aR => exact zE' (Kd.R_reads' HO336.out).2.2)
               (case aB => exact zb)
               (case aF => exact (fun k_ hk => ⟨Kd.fresh' (Kd.R_lt (zR HO_12)) k_ hk, Kd.fresh' (Kd.R_lt (zR HO336)) k_ hk⟩))
               (case aO => exact (zRm HO333 (fun _ hk => ⟨hk.2, hk.1⟩)))
               (case aS => exact (below_size zb))
               (case aL => have := LMc52.out; omega)
               intro v338 w68 ho hb hg hat; rw [← Ny337.out] at ho; replace HO_12 := Aside0.mk (Kd.R_after (ok := (fun k_ => some k_ ≠ (.slice Ao69 y334.length co69 : Value).ownBlock)) (zRm HO_12 (fun _ hk => ⟨hk.2, hk.1⟩)) hg hat); replace HO_301003 := Aside0.mk (Kd.R_over' (zR HO_301003) (Kd.R_typed (zR HO333)) (by decide) hg); replace HO_324003 := Aside0.mk (Kd.R_over' (zR HO_324003) (Kd.R_typed (zR HO333)) (by decide) hg)
               replace BK293 := (blk_grown' BK293 hg (Kd.R_ne HO333.out BK293.out (by decide)))
               replace BK300 := (blk_grown' BK300 hg (Kd.R_ne HO333.out BK300.out (by decide)))
               replace BK323 := (blk_grown' BK323 hg (Kd.R_ne HO333.out BK323.out (by decide)))
               replace BK327 := (blk_grown' BK327 hg (Kd.R_ne HO333.out BK327.out (by decide)))
               replace HO336 := Aside0.mk (Kd.R_after (ok := (fun k_ => some k_ ≠ (.slice Ao36 t313.length co36 : Value).ownBlock)) (zRm HO336 (fun _ hk => ⟨hk.2, hk.1⟩)) hg hat); replace HB := Aside0.mk (hb); have HO339 := Aside0.mk (ho); clear HO333 ho hb hg hat; refine hK.out _ _ ⟨(blk_cell BK300.out 0).trans rfl, (blk_cell BK300.out 1).trans rfl, (blk_cell BK300.out 2).trans rfl, (blk_cell BK300.out 3).trans rfl⟩ (fun hHeld => ?_); clear hK K; refine norm_ (a' := ?_) ?_ ?_; rotate_left
               ·show Act.put _ (some 99) _ = _
                simp only [Act.put, List.setIfInBounds_toArray, List.set_cons_zero, List.set_cons_succ, i64_w, i32_w]; rfl
               exact zN (hJ1_3_5_6 (v329, v332, .slice Ao69 y334.length co69, v338) _ ⟨hHeld, (zRm HO336 (fun _ hk => ⟨hk.2, hk.1⟩)), (zRm HO339 (fun _ hk => ⟨hk.2, hk.1⟩)), (zR HO_12), (zR HO_301003), (zR HO_324003), (Cl.blk BK293.out), (Cl.blk BK300.out), (Cl.blk BK323.out), (Cl.blk BK327.out), zb⟩)
              ·skip
               refine box_step ?hg (N := 19) ?hd (cs := #[.int .i64 0, .int .i64 0]) (t := 28) ?hr ?_; (case hd => rfl); (case hg => rfl); (case hr => first | (go_simp; done) | (go_simp; rfl)); intro gb343 hg w68 hbox hb
               replace HO_12 := (zRb HO_12 hb)
               replace HO_301003 := (zRb HO_301003 hb)
               replace HO_324003 := (zRb HO_324003 hb)
               replace HO333 := (zRb HO333 hb)
               replace HO336 := (zRb HO336 hb)
               have BK343 := Aside0.mk (hbox)
               have GW343 := (zq hg : Aside0 (w.heap.size ≤ gb343))
               have GE343 := (zq hg : Aside0 (w.heap.size ≤ gb343))
               replace HB := (zB hb)
               have NB293_343 := (zl hg BK293 : Aside0 (gb293 ≠ gb343))
               have NB343_293 := (zl' hg BK293 : Aside0 (gb343 ≠ gb293))
               replace BK293 := (zK BK293 hb)
               have NB300_343 := (zl hg BK300 : Aside0 (gb300 ≠ gb343))
               have NB343_300 := (zl' hg BK300 : Aside0 (gb343 ≠ gb300))
               replace BK300 := (zK BK300 hb)
               have NB323_343 := (zl hg BK323 : Aside0 (gb323 ≠ gb343))
               have NB343_323 := (zl' hg BK323 : Aside0 (gb343 ≠ gb323))
               replace BK323 := (zK BK323 hb)
               have NB327_343 := (zl hg BK327 : Aside0 (gb327 ≠ gb343))
               have NB343_327 := (zl' hg BK327 : Aside0 (gb343 ≠ gb327))
               replace BK327 := (zK BK327 hb)
               clear hb hbox hg; refine hK.out _ _ ⟨(blk_cell BK300.out 0).trans rfl, (blk_cell BK300.out 1).trans rfl, (blk_cell BK300.out 2).trans rfl, (blk_cell BK300.out 3).trans rfl⟩ (fun hHeld => ?_); clear hK K; refine norm_ (a' := ?_) ?_ ?_; rotate_left
               ·show Act.put _ (some 19) _ = _
                simp only [Act.put, List.setIfInBounds_toArray, List.set_cons_zero, List.set_cons_succ, i64_w, i32_w]; rfl
               exact zN (hJ1_3_5_11 (v329, v332, (.slice Ao69 y334.length co69 : Value), gb343) _ ⟨hHeld, (zR HO333), (zR HO336), (zR HO_12), (zR HO_301003), (zR HO_324003), (Cl.blk BK293.out), (Cl.blk BK300.out), (Cl.blk BK323.out), (Cl.blk BK327.out), (Cl.blk BK343.out), GW343.out, GE343.out, NB293_343.out, NB343_293.out, NB300_343.out, NB343_300.out, NB323_343.out, NB343_323.out, NB327_343.out, NB343_327.out, zb⟩)
            ·skip
             rintro ⟨v329, v332, v335, gb343⟩ w68 ⟨hS_, h0_, h1_, h2_, h3_, h4_, h5_, h6_, h7_, h8_, h9_, h10_, h11_, h12_, h13_, h14_, h15_, h16_, h17_, h18_, h19_, h20_⟩
             have HO333 := (⟨h0_⟩ : Aside0 (Kd.R (Kd.int .i64) 3 w68 w.heap.size (fun k_ => some k_ ≠ (v335 : Value).ownBlock ∧ some k_ ≠ (.slice Ao36 t313.length co36 : Value).ownBlock) v332 y331))
             have HO336 := (⟨h1_⟩ : Aside0 (Kd.R (Kd.int .i64) 3 w68 w.heap.size (fun k_ => some k_ ≠ (v332 : Value).ownBlock ∧ some k_ ≠ (.slice Ao36 t313.length co36 : Value).ownBlock) v335 y334))
             replace HO_12 := (⟨h2_⟩ : Aside0 (Kd.R (Kd.int .i64) 3 w68 w.heap.size (fun k_ => some k_ ≠ (v332 : Value).ownBlock ∧ some k_ ≠ (v335 : Value).ownBlock) (.slice Ao36 t313.length co36) t313))
             replace HO_301003 := (⟨h3_⟩ : Aside0 (Kd.R k26 26 w68 w.heap.size (fun k_ => some k_ ≠ (.slice Ao42 t319.length co42 : Value).ownBlock ∧ k_ ≠ gb293 ∧ k_ ≠ gb300 ∧ k_ ≠ gb323) (.slice Ao13 t297.length co13) t297))
             replace HO_324003 := (⟨h4_⟩ : Aside0 (Kd.R k26 26 w68 w.heap.size (fun k_ => some k_ ≠ (.slice Ao13 t297.length co13 : Value).ownBlock ∧ k_ ≠ gb293 ∧ k_ ≠ gb300 ∧ k_ ≠ gb323) (.slice Ao42 t319.length co42) t319))
             replace BK293 := (⟨h5_⟩ : Aside0 (w68.heap[gb293]? = some (.cells #[.int .i64 a0_0, .int .i64 a0_1, .string a0_2, .slice A0_3 l0_3.length c0_3] 26 (0, 0))))
             replace BK300 := (⟨h6_⟩ : Aside0 (w68.heap[gb300]? = some (.cells #[.int .i64 t294, .int .i64 t295, .string t296, .slice Ao13 t297.length co13] 26 (0, 0))))
             replace BK323 := (⟨h7_⟩ : Aside0 (w68.heap[gb323]? = some (.cells #[.int .i64 t316, .int .i64 t317, .string t318, .slice Ao42 t319.length co42] 26 (0, 0))))
             replace BK327 := (⟨h8_⟩ : Aside0 (w68.heap[gb327]? = some (.cells #[.int .i64 t324, .int .i64 t325] 28 (0, 0))))
             have BK343 := (⟨h9_⟩ : Aside0 (w68.heap[gb343]? = some (.cells #[.int .i64 0, .int .i64 0] 28 (0, 0))))
             have GW343 := (⟨h10_⟩ : Aside0 (w.heap.size ≤ gb343))
             have GE343 := (⟨h11_⟩ : Aside0 (w.heap.size ≤ gb343))
             have NB293_343 := (⟨h12_⟩ : Aside0 (gb293 ≠ gb343))
             have NB343_293 := (⟨h13_⟩ : Aside0 (gb343 ≠ gb293))
             have NB300_343 := (⟨h14_⟩ : Aside0 (gb300 ≠ gb343))
             have NB343_300 := (⟨h15_⟩ : Aside0 (gb343 ≠ gb300))
             have NB323_343 := (⟨h16_⟩ : Aside0 (gb323 ≠ gb343))
             have NB343_323 := (⟨h17_⟩ : Aside0 (gb343 ≠ gb323))
             have NB327_343 := (⟨h18_⟩ : Aside0 (gb327 ≠ gb343))
             have NB343_327 := (⟨h19_⟩ : Aside0 (gb343 ≠ gb327))
             replace HB := (⟨h20_⟩ : Aside0 (Below w.heap.size w w68))
             clear h0_ h1_ h2_ h3_ h4_ h5_ h6_ h7_ h8_ h9_ h10_ h11_ h12_ h13_ h14_ h15_ h16_ h17_ h18_ h19_ h20_; have hHeld : w68.cell? ⟨gb300, 0, none⟩ = some (.int .i64 t294) ∧ w68.cell? ⟨gb300, 1, none⟩ = some (.int .i64 t295) ∧ w68.cell? ⟨gb300, 2, none⟩ = some (.string t296) ∧ w68.cell? ⟨gb300, 3, none⟩ = some (.slice Ao13 t297.length co13) := hS_; obtain ⟨Ao70, co70, eo70⟩ := Kd.R_slice HO336.out
             (first | subst eo70 | (injection eo70 with f1_ f2_ f3_; have f4_ := f1_.symm; have f5_ := f3_.symm; clear f1_ f2_ f3_; subst f4_; subst f5_))
             refine norm_ (a' := ?_) ?_ ?_; rotate_left
             ·simp only [putAll, Act.put, List.setIfInBounds_toArray, List.set_cons_zero, List.set_cons_succ]; rfl
             refine one_ (i := 6) (N := some 99) #[true, true, true, true, true, true, true, false, false, false, false, true, false, false] rfl rfl (one_of HT_.out (by kernel_rfl)) (by decide) (fun K hK => ?_); refine Kd.R_append_rows_step (Kd.int .i64) (w0 := w) w.heap.size (by rfl) (.tmp 96) (.tmp 98) 30 3 (.int .i64 0) 8 rfl Try.underlying30 info3 rfl (by decide) (by omega) v332 y331 y334 _ _ _ (fun k_ => some k_ ≠ (.slice Ao36 t313.length co36 : Value).ownBlock ∧ some k_ ≠ (.slice Ao70 y334.length co70 : Value).ownBlock) (fun _ => False) rfl rfl ?aO ?aR (fun _ _ h => h) (fun _ h => h.elim) ?aF ?aB ?aS ?aL ?_
             (case aR => exact zE' (Kd.R_reads' HO336.out).2.2)
             (case aB => exact zb)
             (case aF => exact (fun k_ hk => ⟨Kd.fresh' (Kd.R_lt (zR HO_12)) k_ hk, Kd.fresh' (Kd.R_lt (zR HO336)) k_ hk⟩))
             (case aO => exact (zRm HO333 (fun _ hk => ⟨hk.2, hk.1⟩)))
             (case aS => exact (below_size zb))
             (case aL => have := LMc52.out; omega)
             intro v338 w69 ho hb hg hat; rw [← Ny337.out] at ho; replace HO_12 := Aside0.mk (Kd.R_after (ok := (fun k_ => some k_ ≠ (.slice Ao70 y334.length co70 : Value).ownBlock)) (zRm HO_12 (fun _ hk => ⟨hk.2, hk.1⟩)) hg hat); replace HO_301003 := Aside0.mk (Kd.R_over' (zR HO_301003) (Kd.R_typed (zR HO333)) (by decide) hg); replace HO_324003 := Aside0.mk (Kd.R_over' (zR HO_324003) (Kd.R_typed (zR HO333)) (by decide) hg)
             replace BK293 := (blk_grown' BK293 hg (Kd.R_ne HO333.out BK293.out (by decide)))
             replace BK300 := (blk_grown' BK300 hg (Kd.R_ne HO333.out BK300.out (by decide)))
             replace BK323 := (blk_grown' BK323 hg (Kd.R_ne HO333.out BK323.out (by decide)))
             replace BK327 := (blk_grown' BK327 hg (Kd.R_ne HO333.out BK327.out (by decide)))
             replace HO336 := Aside0.mk (Kd.R_after (ok := (fun k_ => some k_ ≠ (.slice Ao36 t313.length co36 : Value).ownBlock)) (zRm HO336 (fun _ hk => ⟨hk.2, hk.1⟩)) hg hat)
             replace BK343 := (blk_grown' BK343 hg (Kd.R_ne HO333.out BK343.out (by decide)))
             replace HB := Aside0.mk (hb); have HO339 := Aside0.mk (ho); clear HO333 ho hb hg hat; refine hK.out _ _ ⟨(blk_cell BK300.out 0).trans rfl, (blk_cell BK300.out 1).trans rfl, (blk_cell BK300.out 2).trans rfl, (blk_cell BK300.out 3).trans rfl⟩ (fun hHeld => ?_); clear hK K; refine norm_ (a' := ?_) ?_ ?_; rotate_left
             ·show Act.put _ (some 99) _ = _
              simp only [Act.put, List.setIfInBounds_toArray, List.set_cons_zero, List.set_cons_succ, i64_w, i32_w]; rfl
             exact zN (hJ1_3_5_6_11 (v329, v332, .slice Ao70 y334.length co70, v338, gb343) _ ⟨hHeld, (zRm HO336 (fun _ hk => ⟨hk.2, hk.1⟩)), (zRm HO339 (fun _ hk => ⟨hk.2, hk.1⟩)), (zR HO_12), (zR HO_301003), (zR HO_324003), (Cl.blk BK293.out), (Cl.blk BK300.out), (Cl.blk BK323.out), (Cl.blk BK327.out), (Cl.blk BK343.out), GW343.out, GE343.out, NB293_343.out, NB343_293.out, NB300_343.out, NB343_300.out, NB323_343.out, NB343_323.out, NB327_343.out, NB343_327.out, zb⟩)
           ·skip
            rintro ⟨v329, v332, v335, v338⟩ w69 ⟨hS_, h0_, h1_, h2_, h3_, h4_, h5_, h6_, h7_, h8_, h9_⟩
            have HO336 := (⟨h0_⟩ : Aside0 (Kd.R (Kd.int .i64) 3 w69 w.heap.size (fun k_ => some k_ ≠ (v338 : Value).ownBlock ∧ some k_ ≠ (.slice Ao36 t313.length co36 : Value).ownBlock) v335 y334))
            have HO339 := (⟨h1_⟩ : Aside0 (Kd.R (Kd.int .i64) 3 w69 w.heap.size (fun k_ => some k_ ≠ (v335 : Value).ownBlock ∧ some k_ ≠ (.slice Ao36 t313.length co36 : Value).ownBlock) v338 y337))
            replace HO_12 := (⟨h2_⟩ : Aside0 (Kd.R (Kd.int .i64) 3 w69 w.heap.size (fun k_ => some k_ ≠ (v335 : Value).ownBlock ∧ some k_ ≠ (v338 : Value).ownBlock) (.slice Ao36 t313.length co36) t313))
            replace HO_301003 := (⟨h3_⟩ : Aside0 (Kd.R k26 26 w69 w.heap.size (fun k_ => some k_ ≠ (.slice Ao42 t319.length co42 : Value).ownBlock ∧ k_ ≠ gb293 ∧ k_ ≠ gb300 ∧ k_ ≠ gb323) (.slice Ao13 t297.length co13) t297))
            replace HO_324003 := (⟨h4_⟩ : Aside0 (Kd.R k26 26 w69 w.heap.size (fun k_ => some k_ ≠ (.slice Ao13 t297.length co13 : Value).ownBlock ∧ k_ ≠ gb293 ∧ k_ ≠ gb300 ∧ k_ ≠ gb323) (.slice Ao42 t319.length co42) t319))
            replace BK293 := (⟨h5_⟩ : Aside0 (w69.heap[gb293]? = some (.cells #[.int .i64 a0_0, .int .i64 a0_1, .string a0_2, .slice A0_3 l0_3.length c0_3] 26 (0, 0))))
            replace BK300 := (⟨h6_⟩ : Aside0 (w69.heap[gb300]? = some (.cells #[.int .i64 t294, .int .i64 t295, .string t296, .slice Ao13 t297.length co13] 26 (0, 0))))
            replace BK323 := (⟨h7_⟩ : Aside0 (w69.heap[gb323]? = some (.cells #[.int .i64 t316, .int .i64 t317, .string t318, .slice Ao42 t319.length co42] 26 (0, 0))))
            replace BK327 := (⟨h8_⟩ : Aside0 (w69.heap[gb327]? = some (.cells #[.int .i64 t324, .int .i64 t325] 28 (0, 0))))
            replace HB := (⟨h9_⟩ : Aside0 (Below w.heap.size w w69))
            clear h0_ h1_ h2_ h3_ h4_ h5_ h6_ h7_ h8_ h9_; have hHeld : w69.cell? ⟨gb300, 0, none⟩ = some (.int .i64 t294) ∧ w69.cell? ⟨gb300, 1, none⟩ = some (.int .i64 t295) ∧ w69.cell? ⟨gb300, 2, none⟩ = some (.string t296) ∧ w69.cell? ⟨gb300, 3, none⟩ = some (.slice Ao13 t297.length co13) := hS_; obtain ⟨Ao70, co70, eo70⟩ := Kd.R_slice HO339.out
            (first | subst eo70 | (injection eo70 with f1_ f2_ f3_; have f4_ := f1_.symm; have f5_ := f3_.symm; clear f1_ f2_ f3_; subst f4_; subst f5_))
            refine norm_ (a' := ?_) ?_ ?_; rotate_left
            ·simp only [putAll, Act.put, List.setIfInBounds_toArray, List.set_cons_zero, List.set_cons_succ]; rfl
            refine two_ (i := 7) (j := 11) (Ni := some 100) (Nj := some 19) #[true, true, true, true, true, true, true, true, false, false, false, false, false, false] #[true, true, true, true, true, true, true, false, false, false, false, true, false, false] rfl rfl rfl rfl (two_of HT_.out (by kernel_rfl)) (by decide) (by decide) (fun K hK => ?_) (fun K hK => ?_)
            ·skip
             refine goes_ Try.func48 (by kernel_rfl) rfl #[.agg #[.int .i64 t294, .int .i64 t295, .string t296, .slice Ao13 t297.length co13], .slice Ao70 y337.length co70] (by rfl) rfl rfl (by (try simp only [List.map_toArray, List.map_cons, List.map_nil]); first | done | rfl | (simp only [List.length_drop, List.length_take]; rfl)) ?_
             with_reducible refine (tree_Span.calls k2 t294 t295 t296 _ _ t297 _ _ y337 t340 t341 t342 _ ?side1 ?side2 ?side3 ?side4 A53.out).mono ?_
             (case side1 => exact zE' (Kd.R_reads' HO_301003.out).2.2)
             (case side2 => exact (Kd.R_reads' HO_301003.out).2.1)
             (case side3 => exact zE' (Kd.R_reads' HO339.out).2.2)
             (case side4 => exact (Kd.R_reads' HO339.out).2.1)
             rintro e w71 ⟨rfl, hb⟩; refine ⟨_, rfl, ?_⟩
             replace HO_12 := (zRb HO_12 hb)
             replace HO_301003 := (zRb HO_301003 hb)
             replace HO_324003 := (zRb HO_324003 hb)
             replace HO336 := (zRb HO336 hb)
             replace HO339 := (zRb HO339 hb)
             replace BK293 := (zK BK293 hb)
             replace BK300 := (zK BK300 hb)
             replace BK323 := (zK BK323 hb)
             replace BK327 := (zK BK327 hb)
             replace HB := (zB hb)
             (try clear hb)
             (try clear hb2)
             (try clear hk)
             (try clear hi)
             refine hK.out _ _ ⟨(blk_cell BK300.out 0).trans rfl, (blk_cell BK300.out 1).trans rfl, (blk_cell BK300.out 2).trans rfl, (blk_cell BK300.out 3).trans rfl⟩ (fun hHeld => ?_); clear hK K; refine norm_ (a' := ?_) ?_ ?_; rotate_left
             ·show Act.put _ (some 100) _ = _
              simp only [Act.put, List.setIfInBounds_toArray, List.set_cons_zero, List.set_cons_succ, i64_w, i32_w]; rfl
             refine zp 8 92 HT_ ?_; refine zp 9 101 HT_ ?_; refine zp 10 102 HT_ ?_; exact zN (hJ1_3_5_6_7 (v329, v332, v335, .slice Ao70 y337.length co70) _ ⟨hHeld, (zR HO336), (zR HO339), (zR HO_12), (zR HO_301003), (zR HO_324003), (Cl.blk BK293.out), (Cl.blk BK300.out), (Cl.blk BK323.out), (Cl.blk BK327.out), zb⟩)
            ·skip
             refine box_step ?hg (N := 19) ?hd (cs := #[.int .i64 0, .int .i64 0]) (t := 28) ?hr ?_; (case hd => rfl); (case hg => rfl); (case hr => first | (go_simp; done) | (go_simp; rfl)); intro gb343 hg w70 hbox hb
             replace HO_12 := (zRb HO_12 hb)
             replace HO_301003 := (zRb HO_301003 hb)
             replace HO_324003 := (zRb HO_324003 hb)
             replace HO336 := (zRb HO336 hb)
             replace HO339 := (zRb HO339 hb)
             have BK343 := Aside0.mk (hbox)
             have GW343 := (zq hg : Aside0 (w.heap.size ≤ gb343))
             have GE343 := (zq hg : Aside0 (w.heap.size ≤ gb343))
             replace HB := (zB hb)
             have NB293_343 := (zl hg BK293 : Aside0 (gb293 ≠ gb343))
             have NB343_293 := (zl' hg BK293 : Aside0 (gb343 ≠ gb293))
             replace BK293 := (zK BK293 hb)
             have NB300_343 := (zl hg BK300 : Aside0 (gb300 ≠ gb343))
             have NB343_300 := (zl' hg BK300 : Aside0 (gb343 ≠ gb300))
             replace BK300 := (zK BK300 hb)
             have NB323_343 := (zl hg BK323 : Aside0 (gb323 ≠ gb343))
             have NB343_323 := (zl' hg BK323 : Aside0 (gb343 ≠ gb323))
             replace BK323 := (zK BK323 hb)
             have NB327_343 := (zl hg BK327 : Aside0 (gb327 ≠ gb343))
             have NB343_327 := (zl' hg BK327 : Aside0 (gb343 ≠ gb327))
             replace BK327 := (zK BK327 hb)
             clear hb hbox hg; refine hK.out _ _ ⟨(blk_cell BK300.out 0).trans rfl, (blk_cell BK300.out 1).trans rfl, (blk_cell BK300.out 2).trans rfl, (blk_cell BK300.out 3).trans rfl⟩ (fun hHeld => ?_); clear hK K; refine norm_ (a' := ?_) ?_ ?_; rotate_left
             ·show Act.put _ (some 19) _ = _
              simp only [Act.put, List.setIfInBounds_toArray, List.set_cons_zero, List.set_cons_succ, i64_w, i32_w]; rfl
             exact zN (hJ1_3_5_6_11 (v329, v332, v335, (.slice Ao70 y337.length co70 : Value), gb343) _ ⟨hHeld, (zR HO336), (zR HO339), (zR HO_12), (zR HO_301003), (zR HO_324003), (Cl.blk BK293.out), (Cl.blk BK300.out), (Cl.blk BK323.out), (Cl.blk BK327.out), (Cl.blk BK343.out), GW343.out, GE343.out, NB293_343.out, NB343_293.out, NB300_343.out, NB343_300.out, NB323_343.out, NB343_323.out, NB327_343.out, NB343_327.out, zb⟩)
          ·skip
           rintro ⟨v329, v332, v335, v338, gb343⟩ w70 ⟨hS_, h0_, h1_, h2_, h3_, h4_, h5_, h6_, h7_, h8_, h9_, h10_, h11_, h12_, h13_, h14_, h15_, h16_, h17_, h18_, h19_, h20_⟩
           have HO336 := (⟨h0_⟩ : Aside0 (Kd.R (Kd.int .i64) 3 w70 w.heap.size (fun k_ => some k_ ≠ (v338 : Value).ownBlock ∧ some k_ ≠ (.slice Ao36 t313.length co36 : Value).ownBlock) v335 y334))
           have HO339 := (⟨h1_⟩ : Aside0 (Kd.R (Kd.int .i64) 3 w70 w.heap.size (fun k_ => some k_ ≠ (v335 : Value).ownBlock ∧ some k_ ≠ (.slice Ao36 t313.length co36 : Value).ownBlock) v338 y337))
           replace HO_12 := (⟨h2_⟩ : Aside0 (Kd.R (Kd.int .i64) 3 w70 w.heap.size (fun k_ => some k_ ≠ (v335 : Value).ownBlock ∧ some k_ ≠ (v338 : Value).ownBlock) (.slice Ao36 t313.length co36) t313))
           replace HO_301003 := (⟨h3_⟩ : Aside0 (Kd.R k26 26 w70 w.heap.size (fun k_ => some k_ ≠ (.slice Ao42 t319.length co42 : Value).ownBlock ∧ k_ ≠ gb293 ∧ k_ ≠ gb300 ∧ k_ ≠ gb323) (.slice Ao13 t297.length co13) t297))
           replace HO_324003 := (⟨h4_⟩ : Aside0 (Kd.R k26 26 w70 w.heap.size (fun k_ => some k_ ≠ (.slice Ao13 t297.length co13 : Value).ownBlock ∧ k_ ≠ gb293 ∧ k_ ≠ gb300 ∧ k_ ≠ gb323) (.slice Ao42 t319.length co42) t319))
           replace BK293 := (⟨h5_⟩ : Aside0 (w70.heap[gb293]? = some (.cells #[.int .i64 a0_0, .int .i64 a0_1, .string a0_2, .slice A0_3 l0_3.length c0_3] 26 (0, 0))))
           replace BK300 := (⟨h6_⟩ : Aside0 (w70.heap[gb300]? = some (.cells #[.int .i64 t294, .int .i64 t295, .string t296, .slice Ao13 t297.length co13] 26 (0, 0))))
           replace BK323 := (⟨h7_⟩ : Aside0 (w70.heap[gb323]? = some (.cells #[.int .i64 t316, .int .i64 t317, .string t318, .slice Ao42 t319.length co42] 26 (0, 0))))
           replace BK327 := (⟨h8_⟩ : Aside0 (w70.heap[gb327]? = some (.cells #[.int .i64 t324, .int .i64 t325] 28 (0, 0))))
           have BK343 := (⟨h9_⟩ : Aside0 (w70.heap[gb343]? = some (.cells #[.int .i64 0, .int .i64 0] 28 (0, 0))))
           have GW343 := (⟨h10_⟩ : Aside0 (w.heap.size ≤ gb343))
           have GE343 := (⟨h11_⟩ : Aside0 (w.heap.size ≤ gb343))
           have NB293_343 := (⟨h12_⟩ : Aside0 (gb293 ≠ gb343))
           have NB343_293 := (⟨h13_⟩ : Aside0 (gb343 ≠ gb293))
           have NB300_343 := (⟨h14_⟩ : Aside0 (gb300 ≠ gb343))
           have NB343_300 := (⟨h15_⟩ : Aside0 (gb343 ≠ gb300))
           have NB323_343 := (⟨h16_⟩ : Aside0 (gb323 ≠ gb343))
           have NB343_323 := (⟨h17_⟩ : Aside0 (gb343 ≠ gb323))
           have NB327_343 := (⟨h18_⟩ : Aside0 (gb327 ≠ gb343))
           have NB343_327 := (⟨h19_⟩ : Aside0 (gb343 ≠ gb327))
           replace HB := (⟨h20_⟩ : Aside0 (Below w.heap.size w w70))
           clear h0_ h1_ h2_ h3_ h4_ h5_ h6_ h7_ h8_ h9_ h10_ h11_ h12_ h13_ h14_ h15_ h16_ h17_ h18_ h19_ h20_; have hHeld : w70.cell? ⟨gb300, 0, none⟩ = some (.int .i64 t294) ∧ w70.cell? ⟨gb300, 1, none⟩ = some (.int .i64 t295) ∧ w70.cell? ⟨gb300, 2, none⟩ = some (.string t296) ∧ w70.cell? ⟨gb300, 3, none⟩ = some (.slice Ao13 t297.length co13) := hS_; obtain ⟨Ao71, co71, eo71⟩ := Kd.R_slice HO339.out
           (first | subst eo71 | (injection eo71 with f1_ f2_ f3_; have f4_ := f1_.symm; have f5_ := f3_.symm; clear f1_ f2_ f3_; subst f4_; subst f5_))
           refine norm_ (a' := ?_) ?_ ?_; rotate_left
           ·simp only [putAll, Act.put, List.setIfInBounds_toArray, List.set_cons_zero, List.set_cons_succ]; rfl
           refine one_ (i := 7) (N := some 100) #[true, true, true, true, true, true, true, true, false, false, false, true, false, false] rfl rfl (one_of HT_.out (by kernel_rfl)) (by decide) (fun K hK => ?_); refine goes_ Try.func48 (by kernel_rfl) rfl #[.agg #[.int .i64 t294, .int .i64 t295, .string t296, .slice Ao13 t297.length co13], .slice Ao71 y337.length co71] (by rfl) rfl rfl (by (try simp only [List.map_toArray, List.map_cons, List.map_nil]); first | done | rfl | (simp only [List.length_drop, List.length_take]; rfl)) ?_
           with_reducible refine (tree_Span.calls k2 t294 t295 t296 _ _ t297 _ _ y337 t340 t341 t342 _ ?side1 ?side2 ?side3 ?side4 A53.out).mono ?_
           (case side1 => exact zE' (Kd.R_reads' HO_301003.out).2.2)
           (case side2 => exact (Kd.R_reads' HO_301003.out).2.1)
           (case side3 => exact zE' (Kd.R_reads' HO339.out).2.2)
           (case side4 => exact (Kd.R_reads' HO339.out).2.1)
           rintro e w72 ⟨rfl, hb⟩; refine ⟨_, rfl, ?_⟩
           replace HO_12 := (zRb HO_12 hb)
           replace HO_301003 := (zRb HO_301003 hb)
           replace HO_324003 := (zRb HO_324003 hb)
           replace HO336 := (zRb HO336 hb)
           replace HO339 := (zRb HO339 hb)
           replace BK293 := (zK BK293 hb)
           replace BK300 := (zK BK300 hb)
           replace BK323 := (zK BK323 hb)
           replace BK327 := (zK BK327 hb)
           replace BK343 := (zK BK343 hb)
           replace HB := (zB hb)
           (try clear hb)
           (try clear hb2)
           (try clear hk)
           (try clear hi)
           refine hK.out _ _ ⟨(blk_cell BK300.out 0).trans rfl, (blk_cell BK300.out 1).trans rfl, (blk_cell BK300.out 2).trans rfl, (blk_cell BK300.out 3).trans rfl⟩ (fun hHeld => ?_); clear hK K; refine norm_ (a' := ?_) ?_ ?_; rotate_left
           ·show Act.put _ (some 100) _ = _
            simp only [Act.put, List.setIfInBounds_toArray, List.set_cons_zero, List.set_cons_succ, i64_w, i32_w]; rfl
           refine zp 8 92 HT_ ?_; refine zp 9 101 HT_ ?_; refine zp 10 102 HT_ ?_; exact zN (hJ1_3_5_6_7_11 (v329, v332, v335, .slice Ao71 y337.length co71, gb343) _ ⟨hHeld, (zR HO336), (zR HO339), (zR HO_12), (zR HO_301003), (zR HO_324003), (Cl.blk BK293.out), (Cl.blk BK300.out), (Cl.blk BK323.out), (Cl.blk BK327.out), (Cl.blk BK343.out), GW343.out, GE343.out, NB293_343.out, NB343_293.out, NB300_343.out, NB343_300.out, NB323_343.out, NB343_323.out, NB327_343.out, NB343_327.out, zb⟩)
         ·skip
          rintro ⟨v329, v332, v335, v338⟩ w71 ⟨hS_, h0_, h1_, h2_, h3_, h4_, h5_, h6_, h7_, h8_, h9_⟩
          have HO336 := (⟨h0_⟩ : Aside0 (Kd.R (Kd.int .i64) 3 w71 w.heap.size (fun k_ => some k_ ≠ (v338 : Value).ownBlock ∧ some k_ ≠ (.slice Ao36 t313.length co36 : Value).ownBlock) v335 y334))
          have HO339 := (⟨h1_⟩ : Aside0 (Kd.R (Kd.int .i64) 3 w71 w.heap.size (fun k_ => some k_ ≠ (v335 : Value).ownBlock ∧ some k_ ≠ (.slice Ao36 t313.length co36 : Value).ownBlock) v338 y337))
          replace HO_12 := (⟨h2_⟩ : Aside0 (Kd.R (Kd.int .i64) 3 w71 w.heap.size (fun k_ => some k_ ≠ (v335 : Value).ownBlock ∧ some k_ ≠ (v338 : Value).ownBlock) (.slice Ao36 t313.length co36) t313))
          replace HO_301003 := (⟨h3_⟩ : Aside0 (Kd.R k26 26 w71 w.heap.size (fun k_ => some k_ ≠ (.slice Ao42 t319.length co42 : Value).ownBlock ∧ k_ ≠ gb293 ∧ k_ ≠ gb300 ∧ k_ ≠ gb323) (.slice Ao13 t297.length co13) t297))
          replace HO_324003 := (⟨h4_⟩ : Aside0 (Kd.R k26 26 w71 w.heap.size (fun k_ => some k_ ≠ (.slice Ao13 t297.length co13 : Value).ownBlock ∧ k_ ≠ gb293 ∧ k_ ≠ gb300 ∧ k_ ≠ gb323) (.slice Ao42 t319.length co42) t319))
          replace BK293 := (⟨h5_⟩ : Aside0 (w71.heap[gb293]? = some (.cells #[.int .i64 a0_0, .int .i64 a0_1, .string a0_2, .slice A0_3 l0_3.length c0_3] 26 (0, 0))))
          replace BK300 := (⟨h6_⟩ : Aside0 (w71.heap[gb300]? = some (.cells #[.int .i64 t294, .int .i64 t295, .string t296, .slice Ao13 t297.length co13] 26 (0, 0))))
          replace BK323 := (⟨h7_⟩ : Aside0 (w71.heap[gb323]? = some (.cells #[.int .i64 t316, .int .i64 t317, .string t318, .slice Ao42 t319.length co42] 26 (0, 0))))
          replace BK327 := (⟨h8_⟩ : Aside0 (w71.heap[gb327]? = some (.cells #[.int .i64 t324, .int .i64 t325] 28 (0, 0))))
          replace HB := (⟨h9_⟩ : Aside0 (Below w.heap.size w w71))
          clear h0_ h1_ h2_ h3_ h4_ h5_ h6_ h7_ h8_ h9_; have hHeld : w71.cell? ⟨gb300, 0, none⟩ = some (.int .i64 t294) ∧ w71.cell? ⟨gb300, 1, none⟩ = some (.int .i64 t295) ∧ w71.cell? ⟨gb300, 2, none⟩ = some (.string t296) ∧ w71.cell? ⟨gb300, 3, none⟩ = some (.slice Ao13 t297.length co13) := hS_; refine norm_ (a' := ?_) ?_ ?_; rotate_left
          ·simp only [putAll, Act.put, List.setIfInBounds_toArray, List.set_cons_zero, List.set_cons_succ]; rfl
          refine one_ (i := 11) (N := some 19) #[true, true, true, true, true, true, true, true, true, true, true, true, false, false] rfl rfl (one_of HT_.out (by kernel_rfl)) (by decide) (fun K hK => ?_); refine box_step ?hg (N := 19) ?hd (cs := #[.int .i64 0, .int .i64 0]) (t := 28) ?hr ?_; (case hd => rfl); (case hg => rfl); (case hr => first | (go_simp; done) | (go_simp; rfl)); intro gb343 hg w72 hbox hb
          replace HO_12 := (zRb HO_12 hb)
          replace HO_301003 := (zRb HO_301003 hb)
          replace HO_324003 := (zRb HO_324003 hb)
          replace HO336 := (zRb HO336 hb)
          replace HO339 := (zRb HO339 hb)
          have BK343 := Aside0.mk (hbox)
          have GW343 := (zq hg : Aside0 (w.heap.size ≤ gb343))
          have GE343 := (zq hg : Aside0 (w.heap.size ≤ gb343))
          replace HB := (zB hb)
          have NB293_343 := (zl hg BK293 : Aside0 (gb293 ≠ gb343))
          have NB343_293 := (zl' hg BK293 : Aside0 (gb343 ≠ gb293))
          replace BK293 := (zK BK293 hb)
          have NB300_343 := (zl hg BK300 : Aside0 (gb300 ≠ gb343))
          have NB343_300 := (zl' hg BK300 : Aside0 (gb343 ≠ gb300))
          replace BK300 := (zK BK300 hb)
          have NB323_343 := (zl hg BK323 : Aside0 (gb323 ≠ gb343))
          have NB343_323 := (zl' hg BK323 : Aside0 (gb343 ≠ gb323))
          replace BK323 := (zK BK323 hb)
          have NB327_343 := (zl hg BK327 : Aside0 (gb327 ≠ gb343))
          have NB343_327 := (zl' hg BK327 : Aside0 (gb343 ≠ gb327))
          replace BK327 := (zK BK327 hb)
          clear hb hbox hg; refine hK.out _ _ ⟨(blk_cell BK300.out 0).trans rfl, (blk_cell BK300.out 1).trans rfl, (blk_cell BK300.out 2).trans rfl, (blk_cell BK300.out 3).trans rfl⟩ (fun hHeld => ?_); clear hK K; refine norm_ (a' := ?_) ?_ ?_; rotate_left
          ·show Act.put _ (some 19) _ = _
           simp only [Act.put, List.setIfInBounds_toArray, List.set_cons_zero, List.set_cons_succ, i64_w, i32_w]; rfl
          exact zN (hJ1_3_5_6_7_11 (v329, v332, v335, v338, gb343) _ ⟨hHeld, (zR HO336), (zR HO339), (zR HO_12), (zR HO_301003), (zR HO_324003), (Cl.blk BK293.out), (Cl.blk BK300.out), (Cl.blk BK323.out), (Cl.blk BK327.out), (Cl.blk BK343.out), GW343.out, GE343.out, NB293_343.out, NB343_293.out, NB300_343.out, NB343_300.out, NB323_343.out, NB343_323.out, NB327_343.out, NB343_327.out, zb⟩)
        rintro ⟨v329, v332, v335, v338, gb343⟩ w72 ⟨hS_, h0_, h1_, h2_, h3_, h4_, h5_, h6_, h7_, h8_, h9_, h10_, h11_, h12_, h13_, h14_, h15_, h16_, h17_, h18_, h19_, h20_⟩
        have HO336 := (⟨h0_⟩ : Aside0 (Kd.R (Kd.int .i64) 3 w72 w.heap.size (fun k_ => some k_ ≠ (v338 : Value).ownBlock ∧ some k_ ≠ (.slice Ao36 t313.length co36 : Value).ownBlock) v335 y334))
        have HO339 := (⟨h1_⟩ : Aside0 (Kd.R (Kd.int .i64) 3 w72 w.heap.size (fun k_ => some k_ ≠ (v335 : Value).ownBlock ∧ some k_ ≠ (.slice Ao36 t313.length co36 : Value).ownBlock) v338 y337))
        replace HO_12 := (⟨h2_⟩ : Aside0 (Kd.R (Kd.int .i64) 3 w72 w.heap.size (fun k_ => some k_ ≠ (v335 : Value).ownBlock ∧ some k_ ≠ (v338 : Value).ownBlock) (.slice Ao36 t313.length co36) t313))
        replace HO_301003 := (⟨h3_⟩ : Aside0 (Kd.R k26 26 w72 w.heap.size (fun k_ => some k_ ≠ (.slice Ao42 t319.length co42 : Value).ownBlock ∧ k_ ≠ gb293 ∧ k_ ≠ gb300 ∧ k_ ≠ gb323) (.slice Ao13 t297.length co13) t297))
        replace HO_324003 := (⟨h4_⟩ : Aside0 (Kd.R k26 26 w72 w.heap.size (fun k_ => some k_ ≠ (.slice Ao13 t297.length co13 : Value).ownBlock ∧ k_ ≠ gb293 ∧ k_ ≠ gb300 ∧ k_ ≠ gb323) (.slice Ao42 t319.length co42) t319))
        replace BK293 := (⟨h5_⟩ : Aside0 (w72.heap[gb293]? = some (.cells #[.int .i64 a0_0, .int .i64 a0_1, .string a0_2, .slice A0_3 l0_3.length c0_3] 26 (0, 0))))
        replace BK300 := (⟨h6_⟩ : Aside0 (w72.heap[gb300]? = some (.cells #[.int .i64 t294, .int .i64 t295, .string t296, .slice Ao13 t297.length co13] 26 (0, 0))))
        replace BK323 := (⟨h7_⟩ : Aside0 (w72.heap[gb323]? = some (.cells #[.int .i64 t316, .int .i64 t317, .string t318, .slice Ao42 t319.length co42] 26 (0, 0))))
        replace BK327 := (⟨h8_⟩ : Aside0 (w72.heap[gb327]? = some (.cells #[.int .i64 t324, .int .i64 t325] 28 (0, 0))))
        have BK343 := (⟨h9_⟩ : Aside0 (w72.heap[gb343]? = some (.cells #[.int .i64 0, .int .i64 0] 28 (0, 0))))
        have GW343 := (⟨h10_⟩ : Aside0 (w.heap.size ≤ gb343))
        have GE343 := (⟨h11_⟩ : Aside0 (w.heap.size ≤ gb343))
        have NB293_343 := (⟨h12_⟩ : Aside0 (gb293 ≠ gb343))
        have NB343_293 := (⟨h13_⟩ : Aside0 (gb343 ≠ gb293))
        have NB300_343 := (⟨h14_⟩ : Aside0 (gb300 ≠ gb343))
        have NB343_300 := (⟨h15_⟩ : Aside0 (gb343 ≠ gb300))
        have NB323_343 := (⟨h16_⟩ : Aside0 (gb323 ≠ gb343))
        have NB343_323 := (⟨h17_⟩ : Aside0 (gb343 ≠ gb323))
        have NB327_343 := (⟨h18_⟩ : Aside0 (gb327 ≠ gb343))
        have NB343_327 := (⟨h19_⟩ : Aside0 (gb343 ≠ gb327))
        replace HB := (⟨h20_⟩ : Aside0 (Below w.heap.size w w72))
        clear h0_ h1_ h2_ h3_ h4_ h5_ h6_ h7_ h8_ h9_ h10_ h11_ h12_ h13_ h14_ h15_ h16_ h17_ h18_ h19_ h20_; have hHeld : w72.cell? ⟨gb300, 0, none⟩ = some (.int .i64 t294) ∧ w72.cell? ⟨gb300, 1, none⟩ = some (.int .i64 t295) ∧ w72.cell? ⟨gb300, 2, none⟩ = some (.string t296) ∧ w72.cell? ⟨gb300, 3, none⟩ = some (.slice Ao13 t297.length co13) := hS_; refine norm_ (a' := ?_) ?_ ?_; rotate_left
        ·simp only [putAll, Act.put, List.setIfInBounds_toArray, List.set_cons_zero, List.set_cons_succ]; rfl
        refine one_ (i := 12) (N := none) #[true, true, true, true, true, true, true, true, true, true, true, true, true, false] rfl rfl (one_of HT_.out (by kernel_rfl)) (by decide) (fun K hK => ?_); have hs73 : w72.cell? ⟨gb343, 0, none⟩ = some (.int .i64 0) := (blk_cell BK343.out 0).trans rfl; have hfs73 := blk_frozen BK343.out 0; have hns73_0 := NB293_343.out; have hns73_1 := NB300_343.out; have hns73_2 := NB323_343.out; have hns73_3 := NB327_343.out; have hms73_0 := NB343_293.out; have hms73_1 := NB343_300.out; have hms73_2 := NB343_323.out; have hms73_3 := NB343_327.out; have hs74 : w72.cell? ⟨gb343, 1, none⟩ = some (.int .i64 0) := (blk_cell BK343.out 1).trans rfl; have hfs74 := blk_frozen BK343.out 1; have hns74_0 := NB293_343.out; have hns74_1 := NB300_343.out; have hns74_2 := NB323_343.out; have hns74_3 := NB327_343.out; have hms74_0 := NB343_293.out; have hms74_1 := NB343_300.out; have hms74_2 := NB343_323.out; have hms74_3 := NB343_327.out; refine skip_ (w1 := ?_) (by rfl) rfl ?_ ?_; rotate_left
        ·go_simp; rfl
        refine hK.out _ _ ⟨((cell_far (p := ⟨gb343, _, none⟩) NB300_343.out _).trans (((cell_far (p := ⟨gb343, _, none⟩) NB300_343.out _).trans (hHeld.1)))), ((cell_far (p := ⟨gb343, _, none⟩) NB300_343.out _).trans (((cell_far (p := ⟨gb343, _, none⟩) NB300_343.out _).trans (hHeld.2.1)))), ((cell_far (p := ⟨gb343, _, none⟩) NB300_343.out _).trans (((cell_far (p := ⟨gb343, _, none⟩) NB300_343.out _).trans (hHeld.2.2.1)))), ((cell_far (p := ⟨gb343, _, none⟩) NB300_343.out _).trans (((cell_far (p := ⟨gb343, _, none⟩) NB300_343.out _).trans (hHeld.2.2.2))))⟩ (fun hHeld => ?_); clear hK K; refine zp 13 20 HT_ ?_; refine done_ (done_of HT_.out (by kernel_rfl)) ?_; have hnb75 := NB343_293.out; have hnc75 := NB293_343.out; have hnb76 := NB343_300.out; have hnc76 := NB300_343.out; have hnb77 := NB343_323.out; have hnc77 := NB323_343.out; have hnb78 := NB343_327.out; have hnc78 := NB327_343.out; obtain ⟨hcz79_0, hcz79_1⟩ := zc2 BK343; obtain ⟨hfz79_0, hfz79_1⟩ := zz2 BK343
        try go_wp2
        go_roundg k2
        case measure => have := HK1.out; have := HK2.out; omega
        case rel => exact ⟨(t341), (wrap64 (x18_2 + 1)), zs, zs, H', ⟨by have := HK1.out; have := HK2.out; omega⟩, ⟨by (with_reducible repeat (first | apply Kd.R_alloc | apply Kd.R_drewN | apply Kd.R_drew)); exact Kd.R_mono (Kd.R_far (p := ⟨gb343, 1, none⟩) (Kd.R_far (p := ⟨gb343, 0, none⟩) (Kd.R_types HO_12.out BK343.out (by decide)) (fun _ hk => hk.2) (.int .i64 t340)) (fun _ hk => hk.2) (.int .i64 t341)) (fun _ hk => trivial)⟩, ⟨by (with_reducible repeat (first | apply Kd.R_alloc | apply Kd.R_drewN | apply Kd.R_drew)); exact Kd.R_mono (Kd.R_far (p := ⟨gb343, 1, none⟩) (Kd.R_far (p := ⟨gb343, 0, none⟩) (Kd.R_types HO_301003.out BK343.out (by decide)) (fun _ hk => hk.2) (.int .i64 t340)) (fun _ hk => hk.2) (.int .i64 t341)) (fun _ hk => ⟨hk.1.1, ⟨hk.1.2.1, ⟨hk.1.2.2.1, hk.1.2.2.2⟩⟩⟩)⟩, ⟨by (with_reducible repeat (first | apply Kd.R_alloc | apply Kd.R_drewN | apply Kd.R_drew)); exact Kd.R_mono (Kd.R_far (p := ⟨gb343, 1, none⟩) (Kd.R_far (p := ⟨gb343, 0, none⟩) (Kd.R_types HO_324003.out BK343.out (by decide)) (fun _ hk => hk.2) (.int .i64 t340)) (fun _ hk => hk.2) (.int .i64 t341)) (fun _ hk => ⟨hk.1.1, ⟨hk.1.2.1, ⟨hk.1.2.2.1, hk.1.2.2.2⟩⟩⟩)⟩, ⟨zw⟩, ⟨zw⟩, ⟨zw⟩, ⟨zw⟩, ⟨zb⟩⟩
       ·rw [if_neg c50] at H; have c50b0 := decide_eq_false c50; clear c50; by_cases c80 : (t319.length : Int) = 0
        ·rw [if_pos c80] at H; have c80b0 : ((t319.length : Int) == 0) = true := beq_iff_eq.mpr c80; have c80b1 : ((t319.length : Int) != 0) = false := bne_eq_false_iff_eq.mpr c80; clear c80; replace H := zo H; obtain ⟨t344, A81, H⟩ := H; obtain rfl := Option.some.inj H; have hnb82 := NB323_293.out; have hnc82 := NB293_323.out; have hnb83 := NB323_300.out; have hnc83 := NB300_323.out; have hnb84 := NB323_327.out; have hnc84 := NB327_323.out; obtain ⟨hcz85_0, hcz85_1, hcz85_2, hcz85_3⟩ := zc4 BK323; obtain ⟨hfz85_0, hfz85_1, hfz85_2, hfz85_3⟩ := zz4 BK323
         go_wp2_with (first | (go_at_call 20; (with_reducible refine (marginalialaw05_alive.calls  t344 _ A81.out).mono ?_); rintro e w86 ⟨rfl, hb⟩; replace HO_12 := (zRb HO_12 hb); replace HO_301003 := (zRb HO_301003 hb); replace HO_324003 := (zRb HO_324003 hb); replace BK293 := (zK BK293 hb); replace BK300 := (zK BK300 hb); replace BK323 := (zK BK323 hb); replace BK327 := (zK BK327 hb); replace HB := (zB hb); (try clear hb); (try clear hb2); (try clear hk); (try clear hi)))
         go_ret; exact ⟨zr, zb⟩
        ·rw [if_neg c80] at H; have c80b0 : ((t319.length : Int) == 0) = false := beq_eq_false_iff_ne.mpr c80; have c80b1 : ((t319.length : Int) != 0) = true := bne_iff_ne.mpr c80
         have c80b2 : ¬ (t319 = []) := fun h_ => c80 (by rw [h_]; rfl)
         replace H := zi3 H; obtain ⟨c87b0, c87b1, H⟩ := H; replace H := zo H; obtain ⟨t345, A88, H⟩ := H; obtain rfl := Option.some.inj H; have hnb89 := NB323_293.out; have hnc89 := NB293_323.out; have hnb90 := NB323_300.out; have hnc90 := NB300_323.out; have hnb91 := NB323_327.out; have hnc91 := NB327_323.out; obtain ⟨hcz92_0, hcz92_1, hcz92_2, hcz92_3⟩ := zc4 BK323; obtain ⟨hfz92_0, hfz92_1, hfz92_2, hfz92_3⟩ := zz4 BK323; have hnb93 := NB327_293.out; have hnc93 := NB293_327.out; have hnb94 := NB327_300.out; have hnc94 := NB300_327.out; obtain ⟨hcz95_0, hcz95_1⟩ := zc2 BK327; obtain ⟨hfz95_0, hfz95_1⟩ := zz2 BK327
         go_wp2_with (first | (go_at_call 20; (with_reducible refine (marginalialaw05_alive.calls  t345 _ A88.out).mono ?_); rintro e w96 ⟨rfl, hb⟩; replace HO_12 := (zRb HO_12 hb); replace HO_301003 := (zRb HO_301003 hb); replace HO_324003 := (zRb HO_324003 hb); replace BK293 := (zK BK293 hb); replace BK300 := (zK BK300 hb); replace BK323 := (zK BK323 hb); replace BK327 := (zK BK327 hb); replace HB := (zB hb); (try clear hb); (try clear hb2); (try clear hk); (try clear hi)))
         go_ret; exact ⟨zr, zb⟩
 ·rw [if_neg c5] at H; have c5b0 : (t302 == 0) = false := beq_eq_false_iff_ne.mpr c5; have c5b1 : (t302 != 0) = true := bne_iff_ne.mpr c5; replace H := zo H; obtain ⟨t303, A97, H⟩ := H; replace H := zj H; obtain ⟨c98, H⟩ := H; replace c98 := Bool.eq_false_iff.mpr c98; subst c98; replace H := zo H; obtain ⟨t304, A99, H⟩ := H; obtain rfl := Option.some.inj H; go_enter Try.func12, Try.ntmps12
  go_wp2_with (first | ((with_reducible refine zD 2 rfl ?_); refine zx 2 #[.int .i64 a0_0, .int .i64 a0_1, .string a0_2, .slice A0_3 l0_3.length c0_3] 26 ?_; intro gb293 hg w100 hbox hb; have BK293 := Aside0.mk (hbox); have GW293 := (zq hg : Aside0 (w.heap.size ≤ gb293)); have GE293 := GW293; replace HB := (zB hb); clear hb hbox hg; obtain ⟨hcz101_0, hcz101_1, hcz101_2, hcz101_3⟩ := zc4 BK293; obtain ⟨hfz101_0, hfz101_1, hfz101_2, hfz101_3⟩ := zz4 BK293) | ((with_reducible refine zG 15 rfl ?_); refine zg 22 Try.func15 ((marginalialaw05_cut.calls k a0_0 a0_1 a0_2 _ _ l0_3 t294 t295 t296 t297 _ ?side1 ?side2 A3.out).mono ?_); (case side1 => exact zC HR0_3); (case side2 => exact HC0_3.out); rintro e w102 ⟨v298, rfl, ho0, hb⟩; refine ⟨_, rfl, ?_⟩; have HO299 := Aside0.mk (Kd.R_lower (Kd.R_newB ho0 (g := gb293) (o := .cells #[.int .i64 a0_0, .int .i64 a0_1, .string a0_2, .slice A0_3 l0_3.length c0_3] 26 (0, 0)) (Cl.blk BK293.out)) (below_size zb)); replace BK293 := (zK BK293 hb); replace HB := (zB hb); (try clear hb); (try clear hb2); (try clear hk); (try clear hi); (try clear ho0)) | ((with_reducible refine zD 5 rfl ?_); refine zx 5 #[.int .i64 0, .int .i64 0, .string (⟨#[]⟩ : ByteArray), .slice none 0 0] 26 ?_; intro gb300 hg w103 hbox hb; replace HO299 := Aside0.mk (Kd.R_below (Kd.R_elderB (zR HO299) gb300 (Nat.le_of_eq hg.symm)) hb); have BK300 := Aside0.mk (hbox); have GW300 := (zq hg : Aside0 (w.heap.size ≤ gb300)); have GE300 := GW300; replace HB := (zB hb); have NB293_300 := (zl hg BK293 : Aside0 (gb293 ≠ gb300)); have NB300_293 := (zl' hg BK293 : Aside0 (gb300 ≠ gb293)); replace BK293 := (zK BK293 hb); clear hb hbox hg; have hnb104 := NB300_293.out; have hnc104 := NB293_300.out; obtain ⟨hcz105_0, hcz105_1, hcz105_2, hcz105_3⟩ := zc4 BK300; obtain ⟨hfz105_0, hfz105_1, hfz105_2, hfz105_3⟩ := zz4 BK300; obtain ⟨Ao106, co106, eo106⟩ := Kd.R_slice HO299.out; subst eo106) | ((with_reducible refine zG 26 rfl ?_); refine zg 25 Try.func26 ((tree_Text.calls k t294 t295 t296 _ _ t297 t301 t302 _ ?side1 ?side2 A4.out).mono ?_); (case side1 => refine (Kd.R_reads' (e := 26) (base := w.heap.size) (ok := fun k_ => ((True ∧ k_ ≠ gb293) ∧ k_ ≠ gb300)) (n := t297.length) (c := co106) ?_).2.2; exact (by (with_reducible repeat (first | apply Kd.R_alloc | apply Kd.R_drewN | apply Kd.R_drew)); exact (Kd.R_mono (zF4 gb300 (Kd.R_mono HO299.out (fun k_ hk => (⟨hk, hk.2⟩ : _ ∧ k_ ≠ gb300))) (fun _ hk => hk.2)) (fun _ h_ => h_.1)))); (case side2 => exact (Kd.R_reads' HO299.out).2.1); rintro e w107 ⟨rfl, hb⟩; refine ⟨_, rfl, ?_⟩; replace HO299 := Aside0.mk (Kd.R_below (by (with_reducible repeat (first | apply Kd.R_alloc | apply Kd.R_drewN | apply Kd.R_drew)); exact (Kd.R_mono (zF4 gb300 (Kd.R_mono HO299.out (fun k_ hk => (⟨hk, hk.2⟩ : _ ∧ k_ ≠ gb300))) (fun _ hk => hk.2)) (fun _ h_ => h_.1))) hb); replace BK293 := (zw2 gb293 #[.int .i64 a0_0, .int .i64 a0_1, .string a0_2, .slice A0_3 l0_3.length c0_3] 26 hb); replace BK300 := (zw2 gb300 #[.int .i64 t294, .int .i64 t295, .string t296, .slice Ao106 t297.length co106] 26 hb); replace HB := (zB hb); (try clear hb); (try clear hb2); (try clear hk); (try clear hi); obtain ⟨hcz108_0, hcz108_1, hcz108_2, hcz108_3⟩ := zc4 BK300; obtain ⟨hfz108_0, hfz108_1, hfz108_2, hfz108_3⟩ := zz4 BK300) | ((with_reducible refine zG 30 rfl ?_); refine zg 31 Try.func30 ((tree_IsFormed.calls k t294 t295 t296 _ _ t297 false _ ?side1 ?side2 A97.out).mono ?_); (case side1 => exact zE' (Kd.R_reads' HO299.out).2.2); (case side2 => exact (Kd.R_reads' HO299.out).2.1); rintro e w109 ⟨rfl, hb⟩; refine ⟨_, rfl, ?_⟩; replace HO299 := (zRb HO299 hb); replace BK293 := (zK BK293 hb); replace BK300 := (zK BK300 hb); replace HB := (zB hb); (try clear hb); (try clear hb2); (try clear hk); (try clear hi)) | (go_at_call 20; (with_reducible refine (marginalialaw05_alive.calls  t304 _ A99.out).mono ?_); rintro e w110 ⟨rfl, hb⟩; replace HO299 := (zRb HO299 hb); replace BK293 := (zK BK293 hb); replace BK300 := (zK BK300 hb); replace HB := (zB hb); (try clear hb); (try clear hb2); (try clear hk); (try clear hi)))
  go_ret; exact ⟨zr, zb⟩

end Go.Proofs.Ytnafnieocpkkhaa.P

set_option linter.unusedVariables false
set_option linter.unusedSimpArgs false
namespace Go.Proofs.Ytnafnieocpkkhaa.P
open Go Go.RowKit Go.Proofs.Ytnafnieocpkkhaa Go.Proofs.YtnafnieocpkkhaaW.PrintWords Go.Proofs.YtnafnieocpkkhaaW.PrintLast Go.Proofs.YtnafnieocpkkhaaW.PrintMore
theorem baT_size (l : Bs) : (baT l).size = l.length := by simp [baT, ByteArray.size]
theorem baT_append (l : Bs) (s : ByteArray) : baT l ++ s = baT (l ++ s.data.toList) := by
 have h : ∀ (s t : ByteArray), s.data.toList = t.data.toList → s = t := by
  intro s t h
  cases s; cases t
  simp only at h
  congr 1
  exact Array.ext' h
 apply h
 simp [baT]
theorem leaves_l1 (n x : Nd) (p : List Int) (o : Nat) (hs : sm n) (hf : fmd n = true) (hp : p.length ≤ 1000) (hx : atp p n = some (x, o)) : ∀ (d i : Nat), i + d = x.f2.length →
  Ev (fun k => marginalialaw05_TreeLeaves.l1 k p ((o + wds (x.f2.take i) : Nat) : Int) (i : Int) n.f0 n.f1.f0 n.f1.f1 n.f2 x.f0 x.f1.f0 x.f1.f1 x.f2 (o : Int) ((o + wd x : Nat) : Int)) true
 | 0, i, hi => by
  have hal : Ev (fun _ => (marginalialaw05_alive.f).bind fun t => some t) true := Ev.bind1 (a := true) rfl (Ev.now _); have hix : isF x := (isF.of_fmd hf).at hx; refine Ev.shift ?_; simp only [marginalialaw05_TreeLeaves.l1]; refine Ev.neg (by omega) ?_; by_cases h0 : (x.f2.length : Int) = 0
  ·exact Ev.pos h0 hal
  ·have h1 : ¬ x.f0 = 1 := fun q => h0 (by rw [(hix.leaf q).1]; rfl)
   have hw := hix.wd h1; refine Ev.neg h0 (Ev.pos ?_ hal); rw [List.take_of_length_le (by omega), ← hw]
 | d + 1, i, hi => by
  have hil : i < x.f2.length := (by omega)
  have he : x.f2[i]? = some x.f2[i] := List.getElem?_eq_getElem hil; have hsx := atp_sm hs hx; have hlen := hsx.1.len; have hat := atp_append i hx he; have hS := span_ev n (p ++ [(i : Int)]) hs (by simp; omega) hf hat; have hts := wds_take_succ he; have IH := leaves_l1 n x p o hs hf hp hx d (i + 1) (by omega); rw [hts, ← Nat.add_assoc] at IH; refine Ev.shift ?_; simp only [marginalialaw05_TreeLeaves.l1]; rw [w64 (n := (i : Int) + 1) (by omega) (by omega)]; refine Ev.pos (by omega) (Ev.bind1 (a := ([] : List Int)) rfl (Ev.pos (by simp; omega) (Ev.bind1 (a := p) rfl (Ev.bind1 (a := [(i : Int)]) rfl (Ev.pos (by simp; omega) (Ev.bind hS (Ev.pos rfl (Ev.pos rfl (Ev.neg (by show ¬ (((o + wds (x.f2.take i) + wd x.f2[i] : Nat) : Int) < ((o + wds (x.f2.take i) : Nat) : Int)); omega) ?_))))))))); exact IH
theorem leaves_l0 (n : Nd) (l : List Int) (hs : sm n) (hf : fmd n = true) : ∀ (r : List Tk) (i : Nat) (acc : Bs), (lvs n).drop i = r → acc ++ catT r = catT (lvs n) →
  Ev (fun k => marginalialaw05_TreeLeaves.l0 k l (baT (catT (lvs n))) (lvs n) 0 (baT acc) (i : Int) n.f0 n.f1.f0 n.f1.f1 n.f2) true := by
 have hlen := lvs_length n; have hlv := lv_le n; have h2 := hs.2; have h1 := hs.1; have hw := lvs_wd n (isF.of_fmd hf); have hcl := catT_length (lvs n); intro r
 induction r with
 | nil =>
  intro i acc h ha; have := le_of_nil h
  have ha : acc = catT (lvs n) := (by rw [← ha]; exact (List.append_nil _).symm)
  obtain ⟨p, hp⟩ : ∃ p, p = l.take 40 := ⟨_, rfl⟩
  have hpl : p.length ≤ 40 := (by rw [hp, List.length_take]; omega)
  have hsh : marginalialaw05_short.f l = some p := (by rw [hp]; rfl)
  obtain ⟨q, hq, hqs, hql⟩ := position_ev n p hs (by omega); obtain ⟨z, hz⟩ := Option.isSome_iff_exists.1 hqs; obtain ⟨x, o⟩ := z; have hA := At_ev n q hs (by omega) hf hz; have hS := span_ev n q hs (by omega) hf hz; have hl1 := leaves_l1 n x q o hs hf hql hz x.f2.length 0 (by omega); refine Ev.shift ?_; simp only [marginalialaw05_TreeLeaves.l0]; refine Ev.neg (by omega) (Ev.pos (by trivial) (Ev.pos (by rw [ha]) (Ev.bind1 hsh (Ev.bind hq (Ev.bind hA (Ev.bind hS (Ev.pos rfl (Ev.pos rfl ?_))))))))
  simpa [wds] using hl1
 | cons e r ih =>
  intro i acc h ha; have hlt := lt_of_drop h
  have hle : acc.length + (catT (e :: r)).length = (catT (lvs n)).length := (by rw [← List.length_append, ha])
  rw [catT_cons, List.length_append, isize] at hle; refine Ev.shift ?_; simp only [marginalialaw05_TreeLeaves.l0]; rw [rd_tk h, w64 (n := (i : Int) + 1) (by omega) (by omega), baT_append]; have IH := ih (i + 1) (acc ++ e.f1.data.toList) (drop_next h) (by rw [List.append_assoc, ← catT_cons]; exact ha); exact Ev.pos (by omega) (Ev.pos (by omega) (Ev.pos (by rw [baT_size]; omega) IH))
theorem lawLeaves_ev (n0 : Nd) (l : List Int) : Ev (fun k => marginalialaw05_TreeLeaves.f k n0.f0 n0.f1.f0 n0.f1.f1 n0.f2 l) true := by
 obtain ⟨n, hn, hn1, hn2⟩ := lawcut_ev n0
 have hs : sm n := ⟨by omega, by omega⟩
 have hal : Ev (fun _ => (marginalialaw05_alive.f).bind fun t => some t) true := Ev.bind1 (a := true) rfl (Ev.now _); have hT := Text_ev n hs; have hL := Leaves_ev n hs; unfold marginalialaw05_TreeLeaves.f; by_cases hf : fmd n = true
 ·rw [if_pos hf] at hT hL; refine Ev.bind hn (Ev.bind hT (Ev.pos rfl (Ev.bind hL ?_))); exact leaves_l0 n l hs hf (lvs n) 0 [] rfl rfl
 ·rw [if_neg hf] at hT hL; exact Ev.bind hn (Ev.bind hT (Ev.neg (by show ¬ ((4 : Int) = 0); omega) (Ev.bind (IsFormed_ev n hs) (Ev.neg hf hal))))
end Go.Proofs.Ytnafnieocpkkhaa.P
namespace Go.Proofs.Ytnafnieocpkkhaa.Pure
open Go Go.RowKit Go.Proofs.Ytnafnieocpkkhaa Go.Proofs.Ytnafnieocpkkhaa.P Go.Proofs.YtnafnieocpkkhaaW.PrintWords Go.Proofs.YtnafnieocpkkhaaW.PrintLast Go.Proofs.YtnafnieocpkkhaaW.PrintMore
theorem TreeLeaves (W : World) (a0 : Nd) (A0 : Option Addr) (c0 : Nat) (Ap : Option Addr) (cp : Nat) (a1 : List Int) (hr0 : Kd.C k26 W A0 a0.f2.length a0.f2) (hc0 : a0.f2.length ≤ c0) (hr1 : Kd.C (Kd.int .i64) W Ap a1.length a1) (hc1 : a1.length ≤ cp) :
  Calls Try.prog 12 #[.agg #[.int .i64 a0.f0, .int .i64 a0.f1.f0, .string a0.f1.f1, .slice A0 a0.f2.length c0], .slice Ap a1.length cp] W fun e w' => e = .returned (.bool true) ∧ Below W.heap.size W w' := by
 obtain ⟨k, hk⟩ := Ev.rounds (lawLeaves_ev a0 a1); exact marginalialaw05_TreeLeaves.calls k a0.f0 a0.f1.f0 a0.f1.f1 A0 c0 a0.f2 Ap cp a1 true W hr0 hc0 hr1 hc1 hk
end Go.Proofs.Ytnafnieocpkkhaa.Pure

