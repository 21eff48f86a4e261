/- What the claim's row needs of the seat's texts, part 3: put together by a program of this session (declarations that no text of the claim names are left out). -/

import Derived.Test.YtnafnieocpkkhaaO2
namespace Go.Proofs.Ytnafnieocpkkhaa.P
open Go.RowKit Go.Proofs.YtnafnieocpkkhaaW.PrintWords Go.Proofs.YtnafnieocpkkhaaW.PrintLast Go.Proofs.YtnafnieocpkkhaaW.PrintMore
attribute [local go_sem] max2_int min2_int max_two min_two max_three min_three max_four min_four
set_option linter.unusedVariables false
set_option linter.unusedSimpArgs false

/-! ### tree_At: function 49 -/
def tree_At.f (k : Nat) (a0_0 : Int) (a0_1 : Int) (a0_2 : ByteArray) (l0_3 : List (S26)) (l1 : List Int) : Option (Int × Int × ByteArray × (List (S26)) × Int) := (tree_find.f k a0_0 a0_1 a0_2 l0_3 l1).bind fun bt561 => (if bt561.2.2.2.2.2 = 0 then ((tree_Clone.f k bt561.1 bt561.2.1 bt561.2.2.1 bt561.2.2.2.1).bind fun bt570 => (some (bt570.1, bt570.2.1, bt570.2.2.1, bt570.2.2.2, 0))) else (some (0, 0, (⟨#[]⟩ : ByteArray), ([] : List (S26)), bt561.2.2.2.2.2)))
set_option maxHeartbeats 8000000 in
set_option maxRecDepth 100000 in
theorem tree_At.calls (k : Nat) (a0_0 : Int) (a0_1 : Int) (a0_2 : ByteArray) (A0_3 : Option Addr) (c0_3 : Nat) (l0_3 : List (S26)) (A1 : Option Addr) (c1 : Nat) (l1 : List Int) (r1 : Int) (r2 : Int) (r3 : ByteArray) (r4 : List (S26)) (r5 : Int) (w : World) (hr0_3 : Kd.C k26 w A0_3 l0_3.length l0_3) (hc0_3 : l0_3.length ≤ c0_3) (hr1 : Kd.C (Kd.int .i64) w A1 l1.length l1) (hc1 : l1.length ≤ c1) (h : tree_At.f k a0_0 a0_1 a0_2 l0_3 l1 = some (r1, r2, r3, r4, r5)) :
  Calls Try.prog 49 #[.agg #[.int .i64 a0_0, .int .i64 a0_1, .string a0_2, .slice A0_3 l0_3.length c0_3], .slice A1 l1.length c1] w fun e w' => ∃ v3_ : Value, e = .returned (.tuple #[.agg #[.int .i64 r1, .int .i64 r2, .string r3, v3_], .int .i64 r5]) ∧ Kd.R k26 26 w' w.heap.size (fun _ => True) v3_ r4 ∧ Below w.heap.size w w' := by
 have hu26 := Try.underlying26; have HR0_3 := Aside0.mk hr0_3; have HC0_3 := Aside0.mk hc0_3; clear hr0_3 hc0_3; have HR1 := Aside0.mk hr1; have HC1 := Aside0.mk hc1; clear hr1 hc1; have HB := Aside0.mk (Below.refl w.heap.size w); have H : ((tree_find.f k a0_0 a0_1 a0_2 l0_3 l1).bind fun bt561 => (if bt561.2.2.2.2.2 = 0 then ((tree_Clone.f k bt561.1 bt561.2.1 bt561.2.2.1 bt561.2.2.2.1).bind fun bt570 => (some (bt570.1, bt570.2.1, bt570.2.2.1, bt570.2.2.2, 0))) else (some (0, 0, (⟨#[]⟩ : ByteArray), ([] : List (S26)), bt561.2.2.2.2.2)))) = some (r1, r2, r3, r4, r5) := h; clear h; replace H := Option.bind_eq_some_iff.mp H; obtain ⟨⟨t561, t562, t563, t564, t567, t568⟩, A30, H⟩ := H; replace H : (if t568 = 0 then ((tree_Clone.f k t561 t562 t563 t564).bind fun bt570 => (some (bt570.1, bt570.2.1, bt570.2.2.1, bt570.2.2.2, 0))) else (some (0, 0, (⟨#[]⟩ : ByteArray), ([] : List (S26)), t568))) = some (r1, r2, r3, r4, r5) := H; have A3 := Aside0.mk A30; clear A30; by_cases c4 : t568 = 0
 ·rw [if_pos c4] at H; have c4b0 : (t568 == 0) = true := beq_iff_eq.mpr c4; have c4b1 : (t568 != 0) = false := bne_eq_false_iff_eq.mpr c4; clear c4; replace H := Option.bind_eq_some_iff.mp H; obtain ⟨⟨t570, t571, t572, t573⟩, A50, H⟩ := H; replace H : (some (t570, t571, t572, t573, 0)) = some (r1, r2, r3, r4, r5) := H; have A5 := Aside0.mk A50; clear A50; simp only [Option.some.injEq, Prod.mk.injEq] at H; obtain ⟨rfl, rfl, rfl, rfl, rfl⟩ := H; go_enter Try.func49, Try.ntmps49
  go_wp2_with (first | ((with_reducible refine zD 2 rfl ?_); refine zx 2 #[.int .i64 a0_0, .int .i64 a0_1, .string a0_2, .slice A0_3 l0_3.length c0_3] 26 ?_; intro gb559 hg w6 hbox hb; have BK559 := Aside0.mk (hbox); have GW559 := (zq hg : Aside0 (w.heap.size ≤ gb559)); have GE559 := GW559; replace HB := (zB hb); clear hb hbox hg) | ((with_reducible refine zD 4 rfl ?_); refine zx 4 #[.int .i64 0, .int .i64 0, .string (⟨#[]⟩ : ByteArray), .slice none 0 0] 26 ?_; intro gb560 hg w7 hbox hb; have BK560 := Aside0.mk (hbox); have GW560 := (zq hg : Aside0 (w.heap.size ≤ gb560)); have GE560 := GW560; replace HB := (zB hb); have NB559_560 := (zl hg BK559 : Aside0 (gb559 ≠ gb560)); have NB560_559 := (zl' hg BK559 : Aside0 (gb560 ≠ gb559)); replace BK559 := (zK BK559 hb); clear hb hbox hg; have hnb8 := NB559_560.out; have hnc8 := NB560_559.out; obtain ⟨hcz9_0, hcz9_1, hcz9_2, hcz9_3⟩ := zc4 BK559; obtain ⟨hfz9_0, hfz9_1, hfz9_2, hfz9_3⟩ := zz4 BK559) | ((with_reducible refine zG 79 rfl ?_); refine zg 12 Try.func79 ((tree_find.calls k a0_0 a0_1 a0_2 (fun k_ => k_ < w.heap.size) _ _ l0_3 _ _ l1 t561 t562 t563 t564 t567 t568 _ ?side1 ?side2 ?side3 A3.out).mono ?_); (case side1 => exact Kd.V_mk HC0_3.out (Kd.F_below (Kd.C_F k26_heap HR0_3.out) zb)); (case side2 => exact zC HR1); (case side3 => exact HC1.out); rintro e w10 ⟨v565, rfl, ho0, hb⟩; refine ⟨_, rfl, ?_⟩; have HO566 := Aside0.mk (Kd.V_lower (Kd.V_mono (ok' := fun k_ => k_ ≠ gb559 ∧ k_ ≠ gb560) ho0 (fun k_ hk_ => ⟨Or.elim hk_ (fun hs_ => fun e_ => Nat.not_le.2 hs_ (by rw [e_]; exact GW559.out)) (fun hn_ => (Kd.freshB (g := gb559) (o := .cells #[.int .i64 a0_0, .int .i64 a0_1, .string a0_2, .slice A0_3 l0_3.length c0_3] 26 (0, 0)) (Cl.blk BK559.out) k_ hn_)), Or.elim hk_ (fun hs_ => fun e_ => Nat.not_le.2 hs_ (by rw [e_]; exact GW560.out)) (fun hn_ => (Kd.freshB (g := gb560) (o := .cells #[.int .i64 0, .int .i64 0, .string (⟨#[]⟩ : ByteArray), .slice none 0 0] 26 (0, 0)) (Cl.blk BK560.out) k_ hn_))⟩)) (below_size zb)); replace BK559 := (zK BK559 hb); replace BK560 := (zK BK560 hb); replace HB := (zB hb); (try clear hb); (try clear hb2); (try clear hk); (try clear hi); (try clear ho0)) | ((with_reducible refine zD 6 rfl ?_); refine zx 6 #[.int .i64 0, .int .i64 0, .string (⟨#[]⟩ : ByteArray), .slice none 0 0] 26 ?_; intro gb569 hg w11 hbox hb; replace HO566 := Aside0.mk (Kd.V_below (Kd.V_elderB (zV HO566) gb569 (Nat.le_of_eq hg.symm)) hb); have BK569 := Aside0.mk (hbox); have GW569 := (zq hg : Aside0 (w.heap.size ≤ gb569)); have GE569 := GW569; replace HB := (zB hb); have NB559_569 := (zl hg BK559 : Aside0 (gb559 ≠ gb569)); have NB569_559 := (zl' hg BK559 : Aside0 (gb569 ≠ gb559)); replace BK559 := (zK BK559 hb); have NB560_569 := (zl hg BK560 : Aside0 (gb560 ≠ gb569)); have NB569_560 := (zl' hg BK560 : Aside0 (gb569 ≠ gb560)); replace BK560 := (zK BK560 hb); clear hb hbox hg; have hnb12 := NB569_559.out; have hnc12 := NB559_569.out; have hnb13 := NB569_560.out; have hnc13 := NB560_569.out; obtain ⟨hcz14_0, hcz14_1, hcz14_2, hcz14_3⟩ := zc4 BK569; obtain ⟨hfz14_0, hfz14_1, hfz14_2, hfz14_3⟩ := zz4 BK569; obtain ⟨Ao15, co15, eo15⟩ := Kd.V_slice HO566.out; subst eo15) | ((with_reducible refine zG 78 rfl ?_); refine zg 21 Try.func78 ((tree_Clone.calls k t561 t562 t563 _ _ t564 t570 t571 t572 t573 _ ?side1 ?side2 A5.out).mono ?_); (case side1 => refine (Kd.V_reads' (e := 26) (base := w.heap.size) (ok := fun k_ => ((k_ ≠ gb559 ∧ k_ ≠ gb560) ∧ k_ ≠ gb569)) (n := t564.length) (c := co15) ?_).2.2; exact (by (with_reducible repeat (first | apply Kd.V_alloc | apply Kd.V_drewN | apply Kd.V_drew)); exact (Kd.V_mono (Kd.V_far (p := ⟨gb569, 3, none⟩) (Kd.V_far (p := ⟨gb569, 2, none⟩) (Kd.V_far (p := ⟨gb569, 1, none⟩) (Kd.V_far (p := ⟨gb569, 0, none⟩) (Kd.V_mono HO566.out (fun k_ hk => (⟨hk, hk.2⟩ : _ ∧ k_ ≠ gb569))) (fun _ hk => hk.2) (.int .i64 t561)) (fun _ hk => hk.2) (.int .i64 t562)) (fun _ hk => hk.2) (.string t563)) (fun _ hk => hk.2) (.slice Ao15 t564.length co15)) (fun _ h_ => h_.1)))); (case side2 => exact (Kd.V_reads' HO566.out).2.1); rintro e w16 ⟨v574, rfl, ho0, hb⟩; refine ⟨_, rfl, ?_⟩; replace HO566 := Aside0.mk (Kd.V_elder' (by (with_reducible repeat (first | apply Kd.V_alloc | apply Kd.V_drewN | apply Kd.V_drew)); exact (Kd.V_mono (Kd.V_far (p := ⟨gb569, 3, none⟩) (Kd.V_far (p := ⟨gb569, 2, none⟩) (Kd.V_far (p := ⟨gb569, 1, none⟩) (Kd.V_far (p := ⟨gb569, 0, none⟩) (Kd.V_mono HO566.out (fun k_ hk => (⟨hk, hk.2⟩ : _ ∧ k_ ≠ gb569))) (fun _ hk => hk.2) (.int .i64 t561)) (fun _ hk => hk.2) (.int .i64 t562)) (fun _ hk => hk.2) (.string t563)) (fun _ hk => hk.2) (.slice Ao15 t564.length co15)) (fun _ h_ => h_.1))) (Kd.R_base ho0) hb); have HO575 := Aside0.mk (Kd.R_lower (Kd.R_newB (Kd.R_newB (Kd.R_newB ho0 (g := gb559) (o := .cells #[.int .i64 a0_0, .int .i64 a0_1, .string a0_2, .slice A0_3 l0_3.length c0_3] 26 (0, 0)) zw) (g := gb560) (o := .cells #[.int .i64 0, .int .i64 0, .string (⟨#[]⟩ : ByteArray), .slice none 0 0] 26 (0, 0)) zw) (g := gb569) (o := .cells #[.int .i64 t561, .int .i64 t562, .string t563, .slice Ao15 t564.length co15] 26 (0, 0)) zw) (below_size zb)); replace BK559 := (zw2 gb559 #[.int .i64 a0_0, .int .i64 a0_1, .string a0_2, .slice A0_3 l0_3.length c0_3] 26 hb); replace BK560 := (zw2 gb560 #[.int .i64 0, .int .i64 0, .string (⟨#[]⟩ : ByteArray), .slice none 0 0] 26 hb); replace BK569 := (zw2 gb569 #[.int .i64 t561, .int .i64 t562, .string t563, .slice Ao15 t564.length co15] 26 hb); replace HB := (zB hb); (try clear hb); (try clear hb2); (try clear hk); (try clear hi); (try clear ho0); obtain ⟨hcz17_0, hcz17_1, hcz17_2, hcz17_3⟩ := zc4 BK560; obtain ⟨hfz17_0, hfz17_1, hfz17_2, hfz17_3⟩ := zz4 BK560; obtain ⟨Ao18, co18, eo18⟩ := Kd.R_slice HO575.out; subst eo18))
  refine bodyPost_ret (results_ct rfl _ _ gb560 26 #[.int .i64 t570, .int .i64 t571, .string t572, .slice Ao18 t573.length co18] (0, 0) _ rfl zw Try.underlying26 rfl (by kernel_rfl)) rfl ?_; exact ⟨_, zr, by (with_reducible repeat (first | apply Kd.R_alloc | apply Kd.R_drewN | apply Kd.R_drew)); exact Kd.R_mono (zF4 gb560 (Kd.R_mono HO575.out (fun k_ hk => (⟨hk, hk.1.2⟩ : _ ∧ k_ ≠ gb560))) (fun _ hk => hk.2)) (fun _ hk => trivial), zb⟩
 ·rw [if_neg c4] at H; have c4b0 : (t568 == 0) = false := beq_eq_false_iff_ne.mpr c4; have c4b1 : (t568 != 0) = true := bne_iff_ne.mpr c4; simp only [Option.some.injEq, Prod.mk.injEq] at H; obtain ⟨rfl, rfl, rfl, rfl, rfl⟩ := H; go_enter Try.func49, Try.ntmps49
  go_wp2_with (first | ((with_reducible refine zD 2 rfl ?_); refine zx 2 #[.int .i64 a0_0, .int .i64 a0_1, .string a0_2, .slice A0_3 l0_3.length c0_3] 26 ?_; intro gb559 hg w19 hbox hb; have BK559 := Aside0.mk (hbox); have GW559 := (zq hg : Aside0 (w.heap.size ≤ gb559)); have GE559 := GW559; replace HB := (zB hb); clear hb hbox hg) | ((with_reducible refine zD 4 rfl ?_); refine zx 4 #[.int .i64 0, .int .i64 0, .string (⟨#[]⟩ : ByteArray), .slice none 0 0] 26 ?_; intro gb560 hg w20 hbox hb; have BK560 := Aside0.mk (hbox); have GW560 := (zq hg : Aside0 (w.heap.size ≤ gb560)); have GE560 := GW560; replace HB := (zB hb); have NB559_560 := (zl hg BK559 : Aside0 (gb559 ≠ gb560)); have NB560_559 := (zl' hg BK559 : Aside0 (gb560 ≠ gb559)); replace BK559 := (zK BK559 hb); clear hb hbox hg; have hnb21 := NB559_560.out; have hnc21 := NB560_559.out; obtain ⟨hcz22_0, hcz22_1, hcz22_2, hcz22_3⟩ := zc4 BK559; obtain ⟨hfz22_0, hfz22_1, hfz22_2, hfz22_3⟩ := zz4 BK559) | ((with_reducible refine zG 79 rfl ?_); refine zg 12 Try.func79 ((tree_find.calls k a0_0 a0_1 a0_2 (fun k_ => k_ < w.heap.size) _ _ l0_3 _ _ l1 t561 t562 t563 t564 t567 t568 _ ?side1 ?side2 ?side3 A3.out).mono ?_); (case side1 => exact Kd.V_mk HC0_3.out (Kd.F_below (Kd.C_F k26_heap HR0_3.out) zb)); (case side2 => exact zC HR1); (case side3 => exact HC1.out); rintro e w23 ⟨v565, rfl, ho0, hb⟩; refine ⟨_, rfl, ?_⟩; have HO566 := Aside0.mk (Kd.V_lower (Kd.V_mono (ok' := fun k_ => k_ ≠ gb559 ∧ k_ ≠ gb560) ho0 (fun k_ hk_ => ⟨Or.elim hk_ (fun hs_ => fun e_ => Nat.not_le.2 hs_ (by rw [e_]; exact GW559.out)) (fun hn_ => (Kd.freshB (g := gb559) (o := .cells #[.int .i64 a0_0, .int .i64 a0_1, .string a0_2, .slice A0_3 l0_3.length c0_3] 26 (0, 0)) (Cl.blk BK559.out) k_ hn_)), Or.elim hk_ (fun hs_ => fun e_ => Nat.not_le.2 hs_ (by rw [e_]; exact GW560.out)) (fun hn_ => (Kd.freshB (g := gb560) (o := .cells #[.int .i64 0, .int .i64 0, .string (⟨#[]⟩ : ByteArray), .slice none 0 0] 26 (0, 0)) (Cl.blk BK560.out) k_ hn_))⟩)) (below_size zb)); replace BK559 := (zK BK559 hb); replace BK560 := (zK BK560 hb); replace HB := (zB hb); (try clear hb); (try clear hb2); (try clear hk); (try clear hi); (try clear ho0)) | ((with_reducible refine zD 6 rfl ?_); refine zx 6 #[.int .i64 0, .int .i64 0, .string (⟨#[]⟩ : ByteArray), .slice none 0 0] 26 ?_; intro gb569 hg w24 hbox hb; replace HO566 := Aside0.mk (Kd.V_below (Kd.V_elderB (zV HO566) gb569 (Nat.le_of_eq hg.symm)) hb); have BK569 := Aside0.mk (hbox); have GW569 := (zq hg : Aside0 (w.heap.size ≤ gb569)); have GE569 := GW569; replace HB := (zB hb); have NB559_569 := (zl hg BK559 : Aside0 (gb559 ≠ gb569)); have NB569_559 := (zl' hg BK559 : Aside0 (gb569 ≠ gb559)); replace BK559 := (zK BK559 hb); have NB560_569 := (zl hg BK560 : Aside0 (gb560 ≠ gb569)); have NB569_560 := (zl' hg BK560 : Aside0 (gb569 ≠ gb560)); replace BK560 := (zK BK560 hb); clear hb hbox hg; have hnb25 := NB569_559.out; have hnc25 := NB559_569.out; have hnb26 := NB569_560.out; have hnc26 := NB560_569.out; obtain ⟨hcz27_0, hcz27_1, hcz27_2, hcz27_3⟩ := zc4 BK569; obtain ⟨hfz27_0, hfz27_1, hfz27_2, hfz27_3⟩ := zz4 BK569; obtain ⟨Ao28, co28, eo28⟩ := Kd.V_slice HO566.out; subst eo28; obtain ⟨hcz29_0, hcz29_1, hcz29_2, hcz29_3⟩ := zc4 BK560; obtain ⟨hfz29_0, hfz29_1, hfz29_2, hfz29_3⟩ := zz4 BK560))
  refine bodyPost_ret (results_ct rfl _ _ gb560 26 #[.int .i64 0, .int .i64 0, .string (⟨#[]⟩ : ByteArray), .slice none 0 0] (0, 0) _ rfl zw Try.underlying26 rfl (by kernel_rfl)) rfl ?_; exact ⟨_, zr, by first | exact Kd.R_nil _ _ _ _ _ | exact Kd.N_nil _ _ _ _ _ | exact Kd.V_nil _ _ _ _ _ | exact Kd.Q_nil _ _ _ _ _ | exact Kd.S_nil _ _ _ _ _, zb⟩

/-! ### marginalialaw05_position: function 50 -/
def marginalialaw05_position.l0 : Nat → List Int → List Int → Int → Int → Int → ByteArray → List (S26) → Option (List Int)
 | 0, _, _, _, _, _, _, _ => none
 | k + 1, x1, x5, x6, x638000, x638001, x638002, x638003 => if x6 < (x1.length : Int) then (if (x638003.length : Int) > 0 then (if 0 ≤ x6 then (if (IntKind.u64.wrap ((x638003.length : Int))) = 0 then (none) else (if x5.length < 17592186044416 then (if 0 ≤ (wrap64 (Int.tmod (IntKind.u64.wrap (rd x1 x6)) (IntKind.u64.wrap ((x638003.length : Int))))) then (if (wrap64 (Int.tmod (IntKind.u64.wrap (rd x1 x6)) (IntKind.u64.wrap ((x638003.length : Int))))) < (x638003.length : Int) then (marginalialaw05_position.l0 k x1 (x5 ++ [wrap64 (Int.tmod (IntKind.u64.wrap (rd x1 x6)) (IntKind.u64.wrap ((x638003.length : Int))))]) (wrap64 (x6 + 1)) ((rd_T26 x638003 (wrap64 (Int.tmod (IntKind.u64.wrap (rd x1 x6)) (IntKind.u64.wrap ((x638003.length : Int)))))).f0) ((rd_T26 x638003 (wrap64 (Int.tmod (IntKind.u64.wrap (rd x1 x6)) (IntKind.u64.wrap ((x638003.length : Int)))))).f1.f0) ((rd_T26 x638003 (wrap64 (Int.tmod (IntKind.u64.wrap (rd x1 x6)) (IntKind.u64.wrap ((x638003.length : Int)))))).f1.f1) ((rd_T26 x638003 (wrap64 (Int.tmod (IntKind.u64.wrap (rd x1 x6)) (IntKind.u64.wrap ((x638003.length : Int)))))).f2)) else (none)) else (none)) else (none))) else (none)) else (some x5)) else (some x5)
def marginalialaw05_position.f (k : Nat) (a0_0 : Int) (a0_1 : Int) (a0_2 : ByteArray) (l0_3 : List (S26)) (l1 : List Int) : Option (List Int) := marginalialaw05_position.l0 k l1 ([] : List Int) 0 a0_0 a0_1 a0_2 l0_3
set_option maxHeartbeats 8000000 in
set_option maxRecDepth 100000 in
theorem marginalialaw05_position.calls (k : Nat) (a0_0 : Int) (a0_1 : Int) (a0_2 : ByteArray) (P0_3_ : Nat → Prop) (A0_3 : Option Addr) (c0_3 : Nat) (l0_3 : List (S26)) (A1 : Option Addr) (c1 : Nat) (l1 : List Int) (r : List Int) (w : World) (hs0_3 : Kd.V k26 26 w w.heap.size (fun k_ => P0_3_ k_) (.slice A0_3 l0_3.length c0_3) l0_3) (hr1 : Kd.C (Kd.int .i64) w A1 l1.length l1) (hc1 : l1.length ≤ c1) (h : marginalialaw05_position.f k a0_0 a0_1 a0_2 l0_3 l1 = some r) :
  Calls Try.prog 50 #[.agg #[.int .i64 a0_0, .int .i64 a0_1, .string a0_2, .slice A0_3 l0_3.length c0_3], .slice A1 l1.length c1] w fun e w' => ∃ v0_ : Value, e = .returned (v0_) ∧ Kd.R (Kd.int .i64) 3 w' w.heap.size (fun k_ => (w.heap.size ≤ k_)) v0_ r ∧ Below w.heap.size w w' := by
 have hu26 := Try.underlying26; have HO0_3 := Aside0.mk (show Kd.V k26 26 w w.heap.size (fun k_ => (P0_3_ k_ ∨ w.heap.size ≤ k_)) (.slice A0_3 l0_3.length c0_3) l0_3 from Kd.V_mono hs0_3 (fun k_ hk => .inl hk)); have HR1 := Aside0.mk hr1; have HC1 := Aside0.mk hc1; clear hr1 hc1; have HB := Aside0.mk (Below.refl w.heap.size w); have H : (marginalialaw05_position.l0 k l1 ([] : List Int) 0 a0_0 a0_1 a0_2 l0_3) = some r := h; clear h; have H' := Aside0.mk H; clear H; go_enter Try.func50, Try.ntmps50
 go_wp2_with (first | ((with_reducible refine zD 2 rfl ?_); (try (refine gate_guard (by rfl) ?_; dsimp only)); refine zx 2 #[.int .i64 a0_0, .int .i64 a0_1, .string a0_2, .slice A0_3 l0_3.length c0_3] 26 ?_; intro gb637 hg w3 hbox hb; replace HO0_3 := Aside0.mk (Kd.V_below (Kd.V_elderB (zV HO0_3) gb637 (Nat.le_of_eq hg.symm)) hb); have BK637 := Aside0.mk (hbox); have GW637 := (zq hg : Aside0 (w.heap.size ≤ gb637)); have GE637 := GW637; replace HB := (zB hb); clear hb hbox hg))
 repeat (go_quiet (first | ((with_reducible refine zD 2 rfl ?_); (try (refine gate_guard (by rfl) ?_; dsimp only)); refine zx 2 #[.int .i64 a0_0, .int .i64 a0_1, .string a0_2, .slice A0_3 l0_3.length c0_3] 26 ?_; intro gb637 hg w3 hbox hb; replace HO0_3 := Aside0.mk (Kd.V_below (Kd.V_elderB (zV HO0_3) gb637 (Nat.le_of_eq hg.symm)) hb); have BK637 := Aside0.mk (hbox); have GW637 := (zq hg : Aside0 (w.heap.size ≤ gb637)); have GE637 := GW637; replace HB := (zB hb); clear hb hbox hg)); try go_wp2_with (first | ((with_reducible refine zD 2 rfl ?_); (try (refine gate_guard (by rfl) ?_; dsimp only)); refine zx 2 #[.int .i64 a0_0, .int .i64 a0_1, .string a0_2, .slice A0_3 l0_3.length c0_3] 26 ?_; intro gb637 hg w3 hbox hb; replace HO0_3 := Aside0.mk (Kd.V_below (Kd.V_elderB (zV HO0_3) gb637 (Nat.le_of_eq hg.symm)) hb); have BK637 := Aside0.mk (hbox); have GW637 := (zq hg : Aside0 (w.heap.size ≤ gb637)); have GE637 := GW637; replace HB := (zB hb); clear hb hbox hg)))
 go_loopg [5, 6] k (fun kq v5 v6 w' => ∃ (x5_1 : List Int) (x6_1 : Int) (x638000_1 : Int) (x638001_1 : Int) (x638002_1 : ByteArray) (x638003_1 : List (S26)) (u638003 : Value), v6 = .int .i64 x6_1 ∧ Aside0 (marginalialaw05_position.l0 kq l1 x5_1 x6_1 x638000_1 x638001_1 x638002_1 x638003_1 = some r) ∧ Aside0 (kq ≤ k) ∧ Aside0 (Kd.R (Kd.int .i64) 3 w' w.heap.size (fun k_ => (w.heap.size ≤ k_)) v5 x5_1) ∧ Aside0 (Kd.V k26 26 w' w.heap.size (fun k_ => (P0_3_ k_ ∨ w.heap.size ≤ k_) ∧ some k_ ≠ (v5 : Value).ownBlock ∧ k_ ≠ gb637) u638003 x638003_1) ∧ Aside0 (w'.heap[gb637]? = some (.cells #[.int .i64 x638000_1, .int .i64 x638001_1, .string x638002_1, u638003] 26 (0, 0))) ∧ Aside0 (Below w.heap.size w w'))
 case atStart => exact ⟨(([] : List Int)), (0), (a0_0), (a0_1), (a0_2), (l0_3), (.slice A0_3 l0_3.length c0_3), zs, H', ⟨Nat.le_refl _⟩, ⟨by first | exact Kd.R_nil _ _ _ _ _ | exact Kd.N_nil _ _ _ _ _ | exact Kd.V_nil _ _ _ _ _ | exact Kd.Q_nil _ _ _ _ _ | exact Kd.S_nil _ _ _ _ _⟩, ⟨by (with_reducible repeat (first | apply Kd.V_alloc | apply Kd.V_drewN | apply Kd.V_drew)); exact Kd.V_mono HO0_3.out (fun _ hk => ⟨hk.1, ⟨(by simp [Value.ownBlock]), hk.2⟩⟩)⟩, (zA BK637), ⟨zb⟩⟩
 case round =>
  clear H'; obtain ⟨x5_1, x6_1, x638000_1, x638001_1, x638002_1, x638003_1, u638003, rfl, HA, HK1, HO_5, HO_638003, BK637, HB⟩ := hrel
  cases gk with
  | zero => exact absurd HA.out (by simp [marginalialaw05_position.l0])
  | succ k1 =>
   have H := HA.out; clear HA; simp only [marginalialaw05_position.l0] at H; by_cases c4 : x6_1 < (l1.length : Int)
   ·rw [if_pos c4] at H; have c4b0 := decide_eq_true c4; clear c4; by_cases c5 : (x638003_1.length : Int) > 0
    ·rw [if_pos c5] at H; have c5b0 := decide_eq_true c5; have c5b1 : decide (0 < x638003_1.length) = true := decide_eq_true (by omega); clear c5; replace H := zi1 H; obtain ⟨c6b0, H⟩ := H; replace H := zj H; obtain ⟨c7, H⟩ := H; have c7b0 : ((IntKind.u64.wrap ((x638003_1.length : Int))) == 0) = false := beq_eq_false_iff_ne.mpr c7; have c7b1 : ((IntKind.u64.wrap ((x638003_1.length : Int))) != 0) = true := bne_iff_ne.mpr c7; replace H := zi H; obtain ⟨c8, H⟩ := H; have LMc8 := Aside0.mk c8; clear c8
     obtain ⟨y639, hy639⟩ : ∃ y_ : List Int, y_ = (x5_1 ++ [wrap64 (Int.tmod (IntKind.u64.wrap (rd l1 x6_1)) (IntKind.u64.wrap ((x638003_1.length : Int))))]) := ⟨_, rfl⟩
     replace H : (if 0 ≤ (wrap64 (Int.tmod (IntKind.u64.wrap (rd l1 x6_1)) (IntKind.u64.wrap ((x638003_1.length : Int))))) then (if (wrap64 (Int.tmod (IntKind.u64.wrap (rd l1 x6_1)) (IntKind.u64.wrap ((x638003_1.length : Int))))) < (x638003_1.length : Int) then (marginalialaw05_position.l0 k1 l1 y639 (wrap64 (x6_1 + 1)) ((rd_T26 x638003_1 (wrap64 (Int.tmod (IntKind.u64.wrap (rd l1 x6_1)) (IntKind.u64.wrap ((x638003_1.length : Int)))))).f0) ((rd_T26 x638003_1 (wrap64 (Int.tmod (IntKind.u64.wrap (rd l1 x6_1)) (IntKind.u64.wrap ((x638003_1.length : Int)))))).f1.f0) ((rd_T26 x638003_1 (wrap64 (Int.tmod (IntKind.u64.wrap (rd l1 x6_1)) (IntKind.u64.wrap ((x638003_1.length : Int)))))).f1.f1) ((rd_T26 x638003_1 (wrap64 (Int.tmod (IntKind.u64.wrap (rd l1 x6_1)) (IntKind.u64.wrap ((x638003_1.length : Int)))))).f2)) else (none)) else (none)) = some r := by first | (rw [hy639]; with_reducible exact H) | (have H2_ := (Option.bind_some _ _).symm.trans H; rw [hy639]; with_reducible exact H2_) | (have H2_ := (Option.bind_some _ _).symm.trans H; with_reducible exact H2_) | with_reducible exact H | (rw [hy639]; exact H) | exact H
     have Ny639 := Aside0.mk hy639; clear hy639
     obtain ⟨ji9, hji9⟩ : ∃ j_ : Int, (wrap64 (Int.tmod (IntKind.u64.wrap (rd l1 x6_1)) (IntKind.u64.wrap ((x638003_1.length : Int))))) = j_ := ⟨_, rfl⟩
     replace H : (if 0 ≤ (ji9) then (if (ji9) < (x638003_1.length : Int) then (marginalialaw05_position.l0 k1 l1 y639 (wrap64 (x6_1 + 1)) ((rd_T26 x638003_1 (ji9)).f0) ((rd_T26 x638003_1 (ji9)).f1.f0) ((rd_T26 x638003_1 (ji9)).f1.f1) ((rd_T26 x638003_1 (ji9)).f2)) else (none)) else (none)) = some r := by first | (rw [hji9] at H; exact H) | (simp only [hji9] at H ⊢; exact H)
     (try rw [hji9] at Ny639)
     have hji9w : (IntKind.i64.wrap (Int.tmod (IntKind.u64.wrap (rd l1 x6_1)) (IntKind.u64.wrap ((x638003_1.length : Int))))) = ji9 := (i64_w _).trans hji9; replace H := zi1 H; obtain ⟨c10b0, H⟩ := H; replace H := zi1 H; obtain ⟨c11b0, H⟩ := H; have H' := Aside0.mk H; clear H; obtain ⟨hcz12_0, hcz12_1, hcz12_2, hcz12_3⟩ := zc4 BK637; obtain ⟨hfz12_0, hfz12_1, hfz12_2, hfz12_3⟩ := zz4 BK637; obtain ⟨Ao13, co13, eo13⟩ := Kd.V_slice HO_638003.out; subst eo13; have p638 : 0 ≤ (x6_1 : Int) := zt; have q638 : x6_1 < (l1.length : Int) := zt; obtain ⟨ad638, e638, hx638_0⟩ := Kd.at_int HR1.out x6_1 p638 q638
     cases e638
     replace hx638_0 := zh HB hx638_0; replace p638 := eq_true p638; replace q638 := eq_true q638
     go_wp2_with (first | ((with_reducible refine gate_builtin (b := .append) (xs := #[.tmp 31, .tmp 33]) rfl ?_); (try (refine gate_guard (by rfl) ?_; dsimp only)); at_builtin; refine Kd.R_append (Kd.int .i64) (w0 := w) w.heap.size rfl (.tmp 31) (.tmp 33) 30 3 (.int .i64 0) 8 rfl Try.underlying30 info3 rfl (by decide) (by omega) u5 x5_1 ji9 [.int .i64 ji9] (fun k_ => (w.heap.size ≤ k_)) (fun _ => False) rfl rfl ?aP (fun _ hk => hk.elim) ?aF ?aO ?aB ?aS ?aL ?_; (case aP => exact rfl); (case aB => exact zb); (case aF => exact (fun k_ hk => (Nat.le_trans (below_size zb) hk))); (case aO => exact (zR HO_5)); (case aS => exact (below_size zb)); (case aL => have := LMc8.out; omega); intro v640 w14 ho hb hg hat; rw [← Ny639.out] at ho; replace HO_638003 := Aside0.mk (Kd.V_afterv (ok := (fun k_ => (P0_3_ k_ ∨ w.heap.size ≤ k_) ∧ k_ ≠ gb637)) (by (with_reducible repeat (first | apply Kd.V_alloc | apply Kd.V_drewN | apply Kd.V_drew)); exact Kd.V_mono HO_638003.out (fun _ hk => ⟨⟨hk.1, hk.2.2⟩, hk.2.1⟩)) hg hat); replace BK637 := (blk_grown' BK637 hg (Kd.R_ne HO_5.out BK637.out (by decide))); replace HB := Aside0.mk (hb); have HO641 := Aside0.mk (ho); clear HO_5 ho hb hg hat; obtain ⟨hcz15_0, hcz15_1, hcz15_2, hcz15_3⟩ := zc4 BK637; obtain ⟨hfz15_0, hfz15_1, hfz15_2, hfz15_3⟩ := zz4 BK637; have p642 : 0 ≤ ((ji9) : Int) := zt; have q642 : (ji9) < (x638003_1.length : Int) := zt; obtain ⟨ad642, A642_3, c642_3, e642, hx642_0, hx642_1, hx642_2, hx642_3, hl642_3, hi642_3⟩ := at_T26 (Kd.V_reads' HO_638003.out).2.2 (ji9) p642 q642; cases e642; obtain ⟨ce642, hce642, hMe642, hcc642⟩ := Kd.V_get HO_638003.out z26 (ji9) p642 (by first | exact q642 | exact zt | (have e_ := (Kd.V_reads' HO_638003.out).1; omega)); obtain ⟨ua642_3, uc642_3, rfl, ul642_3, ge642_3⟩ := k26_openF hMe642; have hv642_3 := hcc642 3 _ rfl; rw [add_field _ _ 3 (by omega)] at hv642_3; replace hv642_3 := Option.some.inj (hv642_3.symm.trans hx642_3); injection hv642_3 with hva_ hvn_ hvc_; rw [hva_] at ge642_3; rw [hvc_] at ul642_3; have HL642_3 := Aside0.mk (show Kd.V k26 26 _ w.heap.size _ _ ((rd_T26 x638003_1 (ji9)).f2) from Kd.V_mk ul642_3 ge642_3); clear hva_ hvn_ hvc_ ge642_3 ul642_3 hcc642 hce642; have HR642_3 := Aside0.mk hi642_3; have HC642_3 := Aside0.mk hl642_3; clear hi642_3 hl642_3; replace p642 := eq_true p642; replace q642 := eq_true q642))
     repeat (go_quiet (first | ((with_reducible refine gate_builtin (b := .append) (xs := #[.tmp 31, .tmp 33]) rfl ?_); (try (refine gate_guard (by rfl) ?_; dsimp only)); at_builtin; refine Kd.R_append (Kd.int .i64) (w0 := w) w.heap.size rfl (.tmp 31) (.tmp 33) 30 3 (.int .i64 0) 8 rfl Try.underlying30 info3 rfl (by decide) (by omega) u5 x5_1 ji9 [.int .i64 ji9] (fun k_ => (w.heap.size ≤ k_)) (fun _ => False) rfl rfl ?aP (fun _ hk => hk.elim) ?aF ?aO ?aB ?aS ?aL ?_; (case aP => exact rfl); (case aB => exact zb); (case aF => exact (fun k_ hk => (Nat.le_trans (below_size zb) hk))); (case aO => exact (zR HO_5)); (case aS => exact (below_size zb)); (case aL => have := LMc8.out; omega); intro v640 w14 ho hb hg hat; rw [← Ny639.out] at ho; replace HO_638003 := Aside0.mk (Kd.V_afterv (ok := (fun k_ => (P0_3_ k_ ∨ w.heap.size ≤ k_) ∧ k_ ≠ gb637)) (by (with_reducible repeat (first | apply Kd.V_alloc | apply Kd.V_drewN | apply Kd.V_drew)); exact Kd.V_mono HO_638003.out (fun _ hk => ⟨⟨hk.1, hk.2.2⟩, hk.2.1⟩)) hg hat); replace BK637 := (blk_grown' BK637 hg (Kd.R_ne HO_5.out BK637.out (by decide))); replace HB := Aside0.mk (hb); have HO641 := Aside0.mk (ho); clear HO_5 ho hb hg hat; obtain ⟨hcz15_0, hcz15_1, hcz15_2, hcz15_3⟩ := zc4 BK637; obtain ⟨hfz15_0, hfz15_1, hfz15_2, hfz15_3⟩ := zz4 BK637; have p642 : 0 ≤ ((ji9) : Int) := zt; have q642 : (ji9) < (x638003_1.length : Int) := zt; obtain ⟨ad642, A642_3, c642_3, e642, hx642_0, hx642_1, hx642_2, hx642_3, hl642_3, hi642_3⟩ := at_T26 (Kd.V_reads' HO_638003.out).2.2 (ji9) p642 q642; cases e642; obtain ⟨ce642, hce642, hMe642, hcc642⟩ := Kd.V_get HO_638003.out z26 (ji9) p642 (by first | exact q642 | exact zt | (have e_ := (Kd.V_reads' HO_638003.out).1; omega)); obtain ⟨ua642_3, uc642_3, rfl, ul642_3, ge642_3⟩ := k26_openF hMe642; have hv642_3 := hcc642 3 _ rfl; rw [add_field _ _ 3 (by omega)] at hv642_3; replace hv642_3 := Option.some.inj (hv642_3.symm.trans hx642_3); injection hv642_3 with hva_ hvn_ hvc_; rw [hva_] at ge642_3; rw [hvc_] at ul642_3; have HL642_3 := Aside0.mk (show Kd.V k26 26 _ w.heap.size _ _ ((rd_T26 x638003_1 (ji9)).f2) from Kd.V_mk ul642_3 ge642_3); clear hva_ hvn_ hvc_ ge642_3 ul642_3 hcc642 hce642; have HR642_3 := Aside0.mk hi642_3; have HC642_3 := Aside0.mk hl642_3; clear hi642_3 hl642_3; replace p642 := eq_true p642; replace q642 := eq_true q642)); try go_wp2_with (first | ((with_reducible refine gate_builtin (b := .append) (xs := #[.tmp 31, .tmp 33]) rfl ?_); (try (refine gate_guard (by rfl) ?_; dsimp only)); at_builtin; refine Kd.R_append (Kd.int .i64) (w0 := w) w.heap.size rfl (.tmp 31) (.tmp 33) 30 3 (.int .i64 0) 8 rfl Try.underlying30 info3 rfl (by decide) (by omega) u5 x5_1 ji9 [.int .i64 ji9] (fun k_ => (w.heap.size ≤ k_)) (fun _ => False) rfl rfl ?aP (fun _ hk => hk.elim) ?aF ?aO ?aB ?aS ?aL ?_; (case aP => exact rfl); (case aB => exact zb); (case aF => exact (fun k_ hk => (Nat.le_trans (below_size zb) hk))); (case aO => exact (zR HO_5)); (case aS => exact (below_size zb)); (case aL => have := LMc8.out; omega); intro v640 w14 ho hb hg hat; rw [← Ny639.out] at ho; replace HO_638003 := Aside0.mk (Kd.V_afterv (ok := (fun k_ => (P0_3_ k_ ∨ w.heap.size ≤ k_) ∧ k_ ≠ gb637)) (by (with_reducible repeat (first | apply Kd.V_alloc | apply Kd.V_drewN | apply Kd.V_drew)); exact Kd.V_mono HO_638003.out (fun _ hk => ⟨⟨hk.1, hk.2.2⟩, hk.2.1⟩)) hg hat); replace BK637 := (blk_grown' BK637 hg (Kd.R_ne HO_5.out BK637.out (by decide))); replace HB := Aside0.mk (hb); have HO641 := Aside0.mk (ho); clear HO_5 ho hb hg hat; obtain ⟨hcz15_0, hcz15_1, hcz15_2, hcz15_3⟩ := zc4 BK637; obtain ⟨hfz15_0, hfz15_1, hfz15_2, hfz15_3⟩ := zz4 BK637; have p642 : 0 ≤ ((ji9) : Int) := zt; have q642 : (ji9) < (x638003_1.length : Int) := zt; obtain ⟨ad642, A642_3, c642_3, e642, hx642_0, hx642_1, hx642_2, hx642_3, hl642_3, hi642_3⟩ := at_T26 (Kd.V_reads' HO_638003.out).2.2 (ji9) p642 q642; cases e642; obtain ⟨ce642, hce642, hMe642, hcc642⟩ := Kd.V_get HO_638003.out z26 (ji9) p642 (by first | exact q642 | exact zt | (have e_ := (Kd.V_reads' HO_638003.out).1; omega)); obtain ⟨ua642_3, uc642_3, rfl, ul642_3, ge642_3⟩ := k26_openF hMe642; have hv642_3 := hcc642 3 _ rfl; rw [add_field _ _ 3 (by omega)] at hv642_3; replace hv642_3 := Option.some.inj (hv642_3.symm.trans hx642_3); injection hv642_3 with hva_ hvn_ hvc_; rw [hva_] at ge642_3; rw [hvc_] at ul642_3; have HL642_3 := Aside0.mk (show Kd.V k26 26 _ w.heap.size _ _ ((rd_T26 x638003_1 (ji9)).f2) from Kd.V_mk ul642_3 ge642_3); clear hva_ hvn_ hvc_ ge642_3 ul642_3 hcc642 hce642; have HR642_3 := Aside0.mk hi642_3; have HC642_3 := Aside0.mk hl642_3; clear hi642_3 hl642_3; replace p642 := eq_true p642; replace q642 := eq_true q642)))
     go_roundg k1
     case measure => have := HK1.out; omega
     case rel => exact ⟨(y639), (wrap64 (x6_1 + 1)), ((rd_T26 x638003_1 (ji9)).f0), ((rd_T26 x638003_1 (ji9)).f1.f0), ((rd_T26 x638003_1 (ji9)).f1.f1), ((rd_T26 x638003_1 (ji9)).f2), (.slice A642_3 ((rd_T26 x638003_1 (ji9)).f2).length c642_3), zs, H', zk, ⟨by (with_reducible repeat (first | apply Kd.R_alloc | apply Kd.R_drewN | apply Kd.R_drew)); exact Kd.R_mono (zF4 gb637 (Kd.R_types HO641.out BK637.out (by decide)) (fun _ hk => hk.2)) (fun _ hk => hk.1)⟩, ⟨by (with_reducible repeat (first | apply Kd.V_alloc | apply Kd.V_drewN | apply Kd.V_drew)); exact Kd.V_mono (Kd.V_far (p := ⟨gb637, 3, none⟩) (Kd.V_far (p := ⟨gb637, 2, none⟩) (Kd.V_far (p := ⟨gb637, 1, none⟩) (Kd.V_far (p := ⟨gb637, 0, none⟩) (Kd.V_mono HL642_3.out (fun k_ hk => (⟨hk, hk.1.2⟩ : _ ∧ k_ ≠ gb637))) (fun _ hk => hk.2) (.int .i64 ((rd_T26 x638003_1 (ji9)).f0))) (fun _ hk => hk.2) (.int .i64 ((rd_T26 x638003_1 (ji9)).f1.f0))) (fun _ hk => hk.2) (.string ((rd_T26 x638003_1 (ji9)).f1.f1))) (fun _ hk => hk.2) (.slice A642_3 ((rd_T26 x638003_1 (ji9)).f2).length c642_3)) (fun _ hk => ⟨hk.1.1.1, ⟨hk.1.2, hk.1.1.2⟩⟩)⟩, ⟨zw⟩, ⟨zb⟩⟩
    ·rw [if_neg c5] at H; have c5b0 := decide_eq_false c5; have c5b1 : decide (0 < x638003_1.length) = false := decide_eq_false (by omega); clear c5; obtain rfl := Option.some.inj H; obtain ⟨hcz16_0, hcz16_1, hcz16_2, hcz16_3⟩ := zc4 BK637; obtain ⟨hfz16_0, hfz16_1, hfz16_2, hfz16_3⟩ := zz4 BK637; obtain ⟨Ao17, co17, eo17⟩ := Kd.V_slice HO_638003.out; subst eo17; go_wp2
     repeat (go_quiet (fail); try go_wp2)
     go_ret; exact ⟨_, zr, by (with_reducible repeat (first | apply Kd.R_alloc | apply Kd.R_drewN | apply Kd.R_drew)); exact HO_5.out, zb⟩
   ·rw [if_neg c4] at H; have c4b0 := decide_eq_false c4; clear c4; obtain rfl := Option.some.inj H; go_wp2
    repeat (go_quiet (fail); try go_wp2)
    go_ret; exact ⟨_, zr, by (with_reducible repeat (first | apply Kd.R_alloc | apply Kd.R_drewN | apply Kd.R_drew)); exact HO_5.out, zb⟩

end Go.Proofs.Ytnafnieocpkkhaa.P

set_option linter.unusedVariables false
set_option linter.unusedSimpArgs false
namespace Go.Proofs.Ytnafnieocpkkhaa.P
open Go.RowKit Go.Proofs.YtnafnieocpkkhaaW.PrintWords Go.Proofs.YtnafnieocpkkhaaW.PrintLast Go.Proofs.YtnafnieocpkkhaaW.PrintMore
abbrev Tk := S23
theorem Nd.eta (x : Nd) : (⟨x.f0, ⟨x.f1.f0, x.f1.f1⟩, x.f2⟩ : Nd) = x := by cases x; rfl
/-! ### Cut -/
theorem One_ev (kind : Int) (s : ByteArray) : ∃ t, marginaliaref03_One.f kind s = some (kind, t) ∧ t.size ≤ 20001 ∧ (s.size ≤ 20001 → t = s) := by
 unfold marginaliaref03_One.f; have h : mn (s.size : Int) 20001 = ((min s.size 20001 : Nat) : Int) := mn_nat s.size 20001; rw [h, if_pos (by omega), if_pos (by omega)]; refine ⟨_, rfl, ?_, fun hs => ?_⟩
 ·rw [ByteArray.size_extract]; omega
 ·rw [Int.toNat_natCast, Nat.min_eq_left hs]; exact ByteArray.extract_zero_size
theorem wds_append (l : List Nd) (x : Nd) : ((l ++ [x]).map wd).sum = (l.map wd).sum + wd x := by
 simp
theorem nds_append (l : List Nd) (x : Nd) : ((l ++ [x]).map nd).sum = (l.map nd).sum + nd x := by
 simp
/-! ### positions -/
def wds (l : List Nd) : Nat := (l.map wd).sum
theorem wds_take_succ {l : List Nd} {i : Nat} {x : Nd} (h : l[i]? = some x) : wds (l.take (i + 1)) = wds (l.take i) + wd x := by
 unfold wds; rw [List.take_add_one, h, List.map_append, List.sum_append]
 simp
theorem wds_take_le (l : List Nd) (i : Nat) : wds (l.take i) ≤ wds l := by
 unfold wds
 conv => rhs; rw [← List.take_append_drop i l, List.map_append, List.sum_append]
 omega
theorem wds_split {l : List Nd} {i : Nat} {x : Nd} (h : l[i]? = some x) : wds (l.take i) + wd x ≤ wds l := by
 rw [← wds_take_succ h]; exact wds_take_le l _
theorem wd_wds (n : Nd) : wd n = n.f1.f1.size + wds n.f2 := wd_eq n
/-- What is at a position, and where it begins. -/
def atp : List Int → Nd → Option (Nd × Nat)
 | [], n => some (n, 0)
 | i :: p, n => if 0 ≤ i then (n.f2[i.toNat]?).bind fun x => (atp p x).map fun y => (y.1, wds (n.f2.take i.toNat) + y.2) else none
theorem atp_sm : ∀ {p : List Int} {n x : Nd} {o : Nat}, sm n → atp p n = some (x, o) → sm x ∧ o + wd x ≤ wd n := by
 intro p
 induction p with
 | nil =>
  intro n x o hs h; simp only [atp, Option.some.injEq, Prod.mk.injEq] at h; obtain ⟨rfl, rfl⟩ := h; exact ⟨hs, by omega⟩
 | cons i p ih =>
  intro n x o hs h; rw [atp] at h
  split at h
  ·cases e : n.f2[i.toNat]? with
   | none => rw [e] at h; cases h
   | some y =>
    rw [e, Option.bind_some] at h
    cases e2 : atp p y with
    | none => rw [e2] at h; cases h
    | some z =>
     rw [e2] at h; simp only [Option.map_some, Option.some.injEq, Prod.mk.injEq] at h; obtain ⟨rfl, rfl⟩ := h; obtain ⟨q1, q2⟩ := ih (hs.kid (List.mem_of_getElem? e)) e2; have := wds_split e; have := wd_wds n; exact ⟨q1, by omega⟩
  ·cases h
theorem atp_fo : ∀ {p : List Int} {n x : Nd} {o m : Nat}, fo m n = true → atp p n = some (x, o) → ∃ m', fo m' x = true := by
 intro p
 induction p with
 | nil =>
  intro n x o m hs h; simp only [atp, Option.some.injEq, Prod.mk.injEq] at h; obtain ⟨rfl, rfl⟩ := h; exact ⟨m, hs⟩
 | cons i p ih =>
  intro n x o m hs h; rw [atp] at h
  split at h
  ·cases e : n.f2[i.toNat]? with
   | none => rw [e] at h; cases h
   | some y =>
    rw [e, Option.bind_some] at h
    cases e2 : atp p y with
    | none => rw [e2] at h; cases h
    | some z =>
     rw [e2] at h; simp only [Option.map_some, Option.some.injEq, Prod.mk.injEq] at h; obtain ⟨rfl, rfl⟩ := h; have hy := List.mem_of_getElem? e
     cases m with
     | zero => cases hs
     | succ m =>
      rw [fo] at hs
      split at hs
      ·rw [Bool.and_eq_true, decide_eq_true_eq] at hs; rw [List.eq_nil_of_length_eq_zero hs.1] at hy
       cases hy
      ·rw [Bool.and_eq_true] at hs; exact ih (List.all_eq_true.1 hs.2 y hy) e2
  ·cases h
theorem rd_drop {l : List Int} {i : Nat} {e : Int} {r : List Int} (h : l.drop i = e :: r) : rd l (i : Int) = e := by
 have h1 : l[i]? = some e := by
  have := congrArg (fun x : List Int => x[0]?) h
  simpa [List.getElem?_drop] using this
 simp [rd, List.getD_eq_getElem?_getD, h1]
theorem rd_at {l : List Nd} {i : Nat} {e : Nd} (h : l[i]? = some e) : rd_T26 l (i : Int) = e := by
 simp [rd_T26, List.getD_eq_getElem?_getD, h]
theorem at_in (q : List Int) (i : Int) (j : Nat) (n : Nd) (h0 : 0 ≤ i) (hi : i.toNat < n.f2.length) (hs : sm n) (l : List Nd) (hl : l = n.f2.take i.toNat) (x : Nd) (hx : n.f2[i.toNat]? = some x) {R : Int × Int × ByteArray × List Nd × Int × Bool} (hq : j < q.length) (hqz : q.length ≤ 1000000000) (off : Nat)
  (H : Ev (fun k => tree_at.l0 k ((off + wds l : Nat) : Int) q (q.length : Int) ((j + 1 : Nat) : Int) x.f0 x.f1.f0 x.f1.f1 x.f2) R) (ho : off + wds l ≤ 1000000000) : ∀ (r : List Nd) (a : Nat), l.drop a = r →
  Ev (fun k => tree_at.l1 k ((off + wds (l.take a) : Nat) : Int) i q (q.length : Int) (j : Int) l (l.length : Int) (a : Int) n.f0 n.f1.f0 n.f1.f1 n.f2) R := by
 have hll : l.length ≤ 1000000 := (by rw [hl, List.length_take]; have := hs.len; omega)
 intro r
 induction r with
 | nil =>
  intro a hd; have hle := le_of_nil hd
  have e0 : rd_T26 n.f2 i = x := (by have := rd_at hx; rwa [Int.toNat_of_nonneg h0] at this)
  refine Ev.shift ?_; simp only [tree_at.l1]; rw [e0, List.take_of_length_le hle]; refine Ev.neg (by omega) (Ev.pos h0 (Ev.pos (by omega) ?_)); rw [w64 (n := (j : Int) + 1) (by omega) (by omega)]
  exact_mod_cast H
 | cons e r ih =>
  intro a hd; have hlt := lt_of_drop hd
  have h1 : l[a]? = some e := by
   have := congrArg (fun x : List Nd => x[0]?) hd
   simpa [List.getElem?_drop] using this
  have hm : e ∈ n.f2 := List.mem_of_mem_take (by rw [← hl]; exact List.mem_of_getElem? h1); have hse := hs.kid hm; have hw := wds_split h1; have hw2 := wds_take_succ h1; refine Ev.shift ?_; simp only [tree_at.l1]; rw [rd_nd hd]; refine Ev.pos (by omega) (Ev.pos (by omega) (Ev.pos (by omega) (Ev.bind (width_ev e hse.1 hse.2) ?_))); rw [w64 (n := ((off + wds (l.take a) : Nat) : Int) + (wd e : Int)) (by omega) (by omega), w64 (n := (a : Int) + 1) (by omega) (by omega)]; have := ih (a + 1) (drop_next hd); rw [hw2, ← Nat.add_assoc] at this
  exact_mod_cast this
def ans : Nat → Option (Nd × Nat) → Int × Int × ByteArray × List Nd × Int × Bool
 | off, some (x, o) => (x.f0, x.f1.f0, x.f1.f1, x.f2, ((off + o : Nat) : Int), true)
 | _, none => (0, 0, ⟨#[]⟩, [], 0, false)
theorem at_loop (q : List Int) (hqz : q.length ≤ 1000000000) : ∀ (p : List Int) (j : Nat) (n : Nd) (off : Nat), q.drop j = p → sm n → off + wd n ≤ 1000000000 →
  Ev (fun k => tree_at.l0 k (off : Int) q (q.length : Int) (j : Int) n.f0 n.f1.f0 n.f1.f1 n.f2) (ans off (atp p n)) := by
 intro p
 induction p with
 | nil =>
  intro j n off hd hs ho; have := le_of_nil hd; refine Ev.shift ?_; simp only [tree_at.l0]; refine Ev.neg (by omega) ?_; exact Ev.now _
 | cons i p ih =>
  intro j n off hd hs ho; have hlt := lt_of_drop hd; refine Ev.shift ?_; simp only [tree_at.l0]; rw [rd_drop hd]; refine Ev.pos (by omega) (Ev.pos (by omega) (Ev.pos (by omega) ?_)); rw [atp]; by_cases h0 : i < 0
  ·rw [if_neg (by omega)]; refine Ev.pos h0 (Ev.shift ?_); simp only [tree_at.j1]; exact Ev.pos trivial (Ev.now _)
  ·rw [if_pos (by omega)]; refine Ev.neg h0 (Ev.shift ?_); simp only [tree_at.j1]; by_cases h1 : i.toNat < n.f2.length
   ·have hx : n.f2[i.toNat]? = some (n.f2[i.toNat]'h1) := List.getElem?_eq_getElem h1; generalize n.f2[i.toNat]'h1 = x at hx; rw [hx, Option.bind_some]; have hsx := hs.kid (List.mem_of_getElem? hx); have hw := wds_split hx; have hwn := wd_wds n; refine Ev.neg (by rw [decide_eq_false (by omega)]; decide) (Ev.pos (by omega) (Ev.pos (by omega) ?_)); refine Ev.bind1 rfl ?_; have H := ih (j + 1) x (off + wds (n.f2.take i.toNat)) (drop_next hd) hsx (by omega)
    have e2 : ans (off + wds (n.f2.take i.toNat)) (atp p x) = ans off ((atp p x).map fun y => (y.1, wds (n.f2.take i.toNat) + y.2)) := by
     cases atp p x with
     | none => rfl
     | some z => show (_, _, _, _, _, _) = (_, _, _, _, _, _); rw [Nat.add_assoc]
    rw [e2] at H; have := at_in q i j n (by omega) h1 hs (n.f2.take i.toNat) rfl x hx hlt hqz off H (by omega) _ 0 rfl
    simpa [wds] using this
   ·rw [List.getElem?_eq_none (by omega)]; refine Ev.pos (decide_eq_true (by omega)) ?_; exact Ev.now _
theorem at_ev (n : Nd) (p : List Int) (hs : sm n) (hp : p.length ≤ 1000000000) : Ev (fun k => tree_at.f k n.f0 n.f1.f0 n.f1.f1 n.f2 p) (ans 0 (atp p n)) := by
 unfold tree_at.f; exact at_loop p hp p 0 n 0 rfl hs (by have := hs.1; omega)
/-- find's answer. -/
def fans (b : Bool) : Option (Nd × Nat) → Int × Int × ByteArray × List Nd × Int × Int
 | some (x, o) => if b = true then (x.f0, x.f1.f0, x.f1.f1, x.f2, (o : Int), 0) else (0, 0, ⟨#[]⟩, [], 0, 4)
 | none => if b = true then (0, 0, ⟨#[]⟩, [], 0, 2) else (0, 0, ⟨#[]⟩, [], 0, 4)
theorem find_ev (n : Nd) (p : List Int) (hs : sm n) (hp : p.length ≤ 1000000000) : Ev (fun k => tree_find.f k n.f0 n.f1.f0 n.f1.f1 n.f2 p) (fans (fmd n) (atp p n)) := by
 unfold tree_find.f; refine Ev.bind (IsFormed_ev n hs) ?_; by_cases h : fmd n = true
 ·rw [h]; refine Ev.pos rfl (Ev.bind (at_ev n p hs hp) ?_)
  cases atp p n with
  | none => exact Ev.now _
  | some z =>
   have e1 : ans 0 (some z) = (z.1.f0, z.1.f1.f0, z.1.f1.f1, z.1.f2, (z.2 : Int), true) := (by show (_, _, _, _, _, _) = _; rw [Nat.zero_add])
   rw [e1]; exact Ev.now _
 ·rw [Bool.not_eq_true] at h; rw [h]; refine Ev.neg (by decide) ?_
  cases atp p n with
  | none => exact Ev.now _
  | some z => exact Ev.now _
theorem ok_ev : ∀ n : Nd, sm n → ∃ K, ∀ k, K ≤ k → tree_Clone.ok k n = true := by
 refine Nd.ind ?_; intro n ih hs
 have : ∀ l : List Nd, (∀ x ∈ l, x ∈ n.f2) → ∃ K, ∀ k, K ≤ k → l.all (tree_Clone.ok k) = true := by
  intro l
  induction l with
  | nil => intro _; exact ⟨0, fun _ _ => rfl⟩
  | cons x r ihl =>
   intro h; obtain ⟨K1, h1⟩ := ih x (h x List.mem_cons_self) (hs.kid (h x List.mem_cons_self)); obtain ⟨K2, h2⟩ := ihl (fun y hy => h y (List.mem_cons_of_mem _ hy)); exact ⟨max K1 K2, fun k hk => by rw [List.all_cons, h1 k (by omega), h2 k (by omega)]; rfl⟩
 obtain ⟨K, hK⟩ := this n.f2 (fun _ h => h); refine ⟨K + 1, fun k hk => ?_⟩
 obtain ⟨k, rfl⟩ : ∃ j, k = j + 1 := ⟨k - 1, by omega⟩
 rw [tree_Clone.ok, hK k (by omega), decide_eq_true hs.len]; rfl
theorem clone_ev (n : Nd) (hs : sm n) : Ev (fun k => tree_Clone.f k n.f0 n.f1.f0 n.f1.f1 n.f2) (n.f0, n.f1.f0, n.f1.f1, n.f2) := by
 obtain ⟨K, hK⟩ := ok_ev n hs; refine ⟨K, fun k hk => ?_⟩
 show tree_Clone.f k n.f0 n.f1.f0 n.f1.f1 n.f2 = _
 unfold tree_Clone.f; rw [Nd.eta, if_pos (hK k hk)]
theorem At_ev (n : Nd) (p : List Int) (hs : sm n) (hp : p.length ≤ 1000000000) (hf : fmd n = true) {x : Nd} {o : Nat} (hx : atp p n = some (x, o)) : Ev (fun k => tree_At.f k n.f0 n.f1.f0 n.f1.f1 n.f2 p) (x.f0, x.f1.f0, x.f1.f1, x.f2, 0) := by
 have hw := atp_sm hs hx; unfold tree_At.f; refine Ev.bind (find_ev n p hs hp) ?_; rw [hf, hx]; refine Ev.pos rfl (Ev.bind (clone_ev x hw.1) ?_); exact Ev.now _
end Go.Proofs.Ytnafnieocpkkhaa.P

namespace Go.Proofs.Ytnafnieocpkkhaa.P
open Go.RowKit Go.Proofs.YtnafnieocpkkhaaW.PrintWords Go.Proofs.YtnafnieocpkkhaaW.PrintLast Go.Proofs.YtnafnieocpkkhaaW.PrintMore
attribute [local go_sem] max2_int min2_int max_two min_two max_three min_three max_four min_four
set_option linter.unusedVariables false
set_option linter.unusedSimpArgs false

/-- The first kid, from one on, in which an offset is: which one, the kid, the offset in it. -/
def tree_Find.scan (k : Nat) : List (S26) → Int → Nat → Option (Nat × S26 × Int)
 | [], _, _ => none
 | x :: r, off, i => (tree_width.f k x.f0 x.f1.f0 x.f1.f1 x.f2).bind fun w => if off < w then some (i, x, off) else tree_Find.scan k r (wrap64 (off - w)) (i + 1)
def tree_Find.go (k : Nat) : Nat → S26 → Int → List Int → Option (List Int)
 | 0, _, _, _ => none
 | m + 1, n, off, acc => if n.f0 = 1 then some acc else (tree_Find.scan k n.f2 off 0).bind fun x => if acc.length < 17592186044416 then tree_Find.go k m x.2.1 x.2.2 (acc ++ [(x.1 : Int)]) else none
def tree_Find.f (k : Nat) (a0_0 : Int) (a0_1 : Int) (a0_2 : ByteArray) (l0_3 : List (S26)) (a1 : Int) : Option (List Int × Int) :=
 (tree_IsFormed.f k a0_0 a0_1 a0_2 l0_3).bind fun b => if b = true then
  (tree_width.f k a0_0 a0_1 a0_2 l0_3).bind fun w => if a1 < 0 then some ([], 2) else if a1 > w then some ([], 2) else if w = 0 then some ([], 5) else (tree_Find.go k k ⟨a0_0, ⟨a0_1, a0_2⟩, l0_3⟩ (mn a1 (wrap64 (w - 1))) []).bind fun l => some (l, 0)
 else some ([], 4)
theorem tree_Find.infoInt : (Try.prog.info? 3).map (fun i => (i.zero, i.size, i.bytes)) = some (some (.int .i64 0), 1, 8) := by kernel_rfl
attribute [local go_sem] max2_int min2_int max_two min_two max_three min_three max_four min_four
set_option maxHeartbeats 8000000 in
set_option maxRecDepth 100000 in
theorem tree_Find.calls (k : Nat) (a0_0 : Int) (a0_1 : Int) (a0_2 : ByteArray) (A0_3 : Option Addr) (c0_3 : Nat) (l0_3 : List (S26)) (a1 : Int) (r1 : List Int) (r2 : Int) (w : World) (hr0_3 : Kd.C k26 w A0_3 l0_3.length l0_3) (hc0_3 : l0_3.length ≤ c0_3) (h : tree_Find.f k a0_0 a0_1 a0_2 l0_3 a1 = some (r1, r2)) :
  Calls Try.prog 16 #[.agg #[.int .i64 a0_0, .int .i64 a0_1, .string a0_2, .slice A0_3 l0_3.length c0_3], .int .i64 a1] w fun e w' => ∃ v0_ : Value, e = .returned (.tuple #[v0_, .int .i64 r2]) ∧ Kd.R (Kd.int .i64) 3 w' w.heap.size (fun _ => True) v0_ r1 ∧ Below w.heap.size w w' := by
 have hu := Try.underlying26; unfold tree_Find.f at h; obtain ⟨b, hb, h⟩ := Option.bind_eq_some_iff.mp h; have HB := Aside0.mk (below_alloc (Below.refl w.heap.size w) (.cells #[.int .i64 a0_0, .int .i64 a0_1, .string a0_2, .slice A0_3 l0_3.length c0_3] 26)); have HG := Aside0.mk (blk_new w (.cells #[.int .i64 a0_0, .int .i64 a0_1, .string a0_2, .slice A0_3 l0_3.length c0_3] 26)); have HF := Aside0.mk hb; have HR := Aside0.mk hr0_3; clear hb hr0_3
 cases b with
 | false =>
  rw [if_neg (by decide)] at h; simp only [Option.some.injEq, Prod.mk.injEq] at h; obtain ⟨rfl, rfl⟩ := h; go_enter Try.func16, Try.ntmps16; go_wp2
  go_step3
  go_wp2_with (go_at_call 30; refine (tree_IsFormed.calls k _ _ _ _ _ _ _ _ (Kd.C_below HR.out HB.out) hc0_3 HF.out).mono ?_; rintro e w1 ⟨rfl, hb⟩; have HB1 := Aside0.mk (token_good.step HB.out hb); clear hb)
  (try rw [Exit.noGoto_ret])
  go_ret2
  exact ⟨_, rfl, Kd.R_nil _ _ _ _ _, HB1.out⟩
 | true =>
  rw [if_pos rfl] at h; obtain ⟨wd, hw, h⟩ := Option.bind_eq_some_iff.mp h; have HW := Aside0.mk hw; clear hw; by_cases c1 : a1 < 0
  ·rw [if_pos c1] at h; simp only [Option.some.injEq, Prod.mk.injEq] at h; obtain ⟨rfl, rfl⟩ := h; have c1b : decide (a1 < 0) = true := decide_eq_true c1; clear c1; go_enter Try.func16, Try.ntmps16; go_wp2
   go_step3
   go_wp2_with (first | (go_at_call 30; refine (tree_IsFormed.calls k _ _ _ _ _ _ _ _ (Kd.C_below HR.out HB.out) hc0_3 HF.out).mono ?_; rintro e w1 ⟨rfl, hb⟩; have HB1 := Aside0.mk (token_good.step HB.out hb); have HG1 := Aside0.mk (blk_below HG.out hb); have z0 : w1.cell? ⟨w.heap.size, 0, none⟩ = some (.int .i64 a0_0) := Lib.cell_of_heap HG1.out 0; have z1 : w1.cell? ⟨w.heap.size, 1, none⟩ = some (.int .i64 a0_1) := Lib.cell_of_heap HG1.out 1; have z2 : w1.cell? ⟨w.heap.size, 2, none⟩ = some (.string a0_2) := Lib.cell_of_heap HG1.out 2; have z3 : w1.cell? ⟨w.heap.size, 3, none⟩ = some (.slice A0_3 l0_3.length c0_3) := Lib.cell_of_heap HG1.out 3; clear hb) | (go_at_call 55; refine (tree_width.calls k _ _ _ _ _ _ _ _ (Kd.C_below HR.out HB1.out) hc0_3 HW.out).mono ?_; rintro e w2 ⟨rfl, hb⟩; have HB2 := Aside0.mk (token_good.step HB1.out hb); have HG2 := Aside0.mk (blk_below HG1.out hb); clear hb))
   (try rw [Exit.noGoto_ret])
   go_ret2
   exact ⟨_, rfl, Kd.R_nil _ _ _ _ _, HB2.out⟩
  ·rw [if_neg c1] at h; have c1b : decide (a1 < 0) = false := decide_eq_false c1; by_cases c2 : a1 > wd
   ·rw [if_pos c2] at h; simp only [Option.some.injEq, Prod.mk.injEq] at h; obtain ⟨rfl, rfl⟩ := h; have c2b : decide (wd < a1) = true := decide_eq_true c2; clear c1 c2; go_enter Try.func16, Try.ntmps16; go_wp2
    go_step3
    go_wp2_with (first | (go_at_call 30; refine (tree_IsFormed.calls k _ _ _ _ _ _ _ _ (Kd.C_below HR.out HB.out) hc0_3 HF.out).mono ?_; rintro e w1 ⟨rfl, hb⟩; have HB1 := Aside0.mk (token_good.step HB.out hb); have HG1 := Aside0.mk (blk_below HG.out hb); have z0 : w1.cell? ⟨w.heap.size, 0, none⟩ = some (.int .i64 a0_0) := Lib.cell_of_heap HG1.out 0; have z1 : w1.cell? ⟨w.heap.size, 1, none⟩ = some (.int .i64 a0_1) := Lib.cell_of_heap HG1.out 1; have z2 : w1.cell? ⟨w.heap.size, 2, none⟩ = some (.string a0_2) := Lib.cell_of_heap HG1.out 2; have z3 : w1.cell? ⟨w.heap.size, 3, none⟩ = some (.slice A0_3 l0_3.length c0_3) := Lib.cell_of_heap HG1.out 3; clear hb) | (go_at_call 55; refine (tree_width.calls k _ _ _ _ _ _ _ _ (Kd.C_below HR.out HB1.out) hc0_3 HW.out).mono ?_; rintro e w2 ⟨rfl, hb⟩; have HB2 := Aside0.mk (token_good.step HB1.out hb); have HG2 := Aside0.mk (blk_below HG1.out hb); clear hb))
    (try rw [Exit.noGoto_ret])
    go_ret2
    exact ⟨_, rfl, Kd.R_nil _ _ _ _ _, HB2.out⟩
   ·rw [if_neg c2] at h; have c2b : decide (wd < a1) = false := decide_eq_false c2; by_cases c3 : wd = 0
    ·rw [if_pos c3] at h; simp only [Option.some.injEq, Prod.mk.injEq] at h; obtain ⟨rfl, rfl⟩ := h; have c3b : (wd == 0) = true := beq_iff_eq.mpr c3; clear c1 c2 c3; go_enter Try.func16, Try.ntmps16; go_wp2
     go_step3
     go_wp2_with (first | (go_at_call 30; refine (tree_IsFormed.calls k _ _ _ _ _ _ _ _ (Kd.C_below HR.out HB.out) hc0_3 HF.out).mono ?_; rintro e w1 ⟨rfl, hb⟩; have HB1 := Aside0.mk (token_good.step HB.out hb); have HG1 := Aside0.mk (blk_below HG.out hb); have z0 : w1.cell? ⟨w.heap.size, 0, none⟩ = some (.int .i64 a0_0) := Lib.cell_of_heap HG1.out 0; have z1 : w1.cell? ⟨w.heap.size, 1, none⟩ = some (.int .i64 a0_1) := Lib.cell_of_heap HG1.out 1; have z2 : w1.cell? ⟨w.heap.size, 2, none⟩ = some (.string a0_2) := Lib.cell_of_heap HG1.out 2; have z3 : w1.cell? ⟨w.heap.size, 3, none⟩ = some (.slice A0_3 l0_3.length c0_3) := Lib.cell_of_heap HG1.out 3; clear hb) | (go_at_call 55; refine (tree_width.calls k _ _ _ _ _ _ _ _ (Kd.C_below HR.out HB1.out) hc0_3 HW.out).mono ?_; rintro e w2 ⟨rfl, hb⟩; have HB2 := Aside0.mk (token_good.step HB1.out hb); have HG2 := Aside0.mk (blk_below HG1.out hb); clear hb))
     (try rw [Exit.noGoto_ret])
     go_ret2
     exact ⟨_, rfl, Kd.R_nil _ _ _ _ _, HB2.out⟩
    ·rw [if_neg c3] at h; have c3b : (wd == 0) = false := beq_eq_false_iff_ne.mpr c3; obtain ⟨l, hl, h⟩ := Option.bind_eq_some_iff.mp h; simp only [Option.some.injEq, Prod.mk.injEq] at h; obtain ⟨rfl, rfl⟩ := h
     obtain ⟨o1, ho1⟩ : ∃ o1 : Int, mn a1 (wrap64 (wd - 1)) = o1 := ⟨_, rfl⟩
     rw [ho1] at hl
     have ho2 : (if wrap64 (wd - 1) < a1 then wrap64 (wd - 1) else a1) = o1 := (by rw [← ho1]; unfold mn; rfl)
     have HL := Aside0.mk hl; clear c1 c2 c3 hl ho1; go_enter Try.func16, Try.ntmps16; go_wp2
     go_step3
     go_wp2_with (first | (go_at_call 30; refine (tree_IsFormed.calls k _ _ _ _ _ _ _ _ (Kd.C_below HR.out HB.out) hc0_3 HF.out).mono ?_; rintro e w1 ⟨rfl, hb⟩; have HB1 := Aside0.mk (token_good.step HB.out hb); have HG1 := Aside0.mk (blk_below HG.out hb); have z0 : w1.cell? ⟨w.heap.size, 0, none⟩ = some (.int .i64 a0_0) := Lib.cell_of_heap HG1.out 0; have z1 : w1.cell? ⟨w.heap.size, 1, none⟩ = some (.int .i64 a0_1) := Lib.cell_of_heap HG1.out 1; have z2 : w1.cell? ⟨w.heap.size, 2, none⟩ = some (.string a0_2) := Lib.cell_of_heap HG1.out 2; have z3 : w1.cell? ⟨w.heap.size, 3, none⟩ = some (.slice A0_3 l0_3.length c0_3) := Lib.cell_of_heap HG1.out 3; clear hb) | (go_at_call 55; refine (tree_width.calls k _ _ _ _ _ _ _ _ (Kd.C_below HR.out HB1.out) hc0_3 HW.out).mono ?_; rintro e w2 ⟨rfl, hb⟩; have HB2 := Aside0.mk (token_good.step HB1.out hb); have HG2 := Aside0.mk (blk_below HG1.out hb); clear hb))
     go_step3
     go_wp2
     go_loopg [1, 7] k (fun kq v1 v7 w' => ∃ (n : S26) (A : Option Addr) (cc : Nat) (off : Int) (acc : List Int), v1 = .int .i64 off ∧ Aside0 (tree_Find.go k kq n off acc = some l) ∧ Aside0 (Kd.C k26 w A n.f2.length n.f2 ∧ n.f2.length ≤ cc) ∧ Aside0 (w'.heap[w.heap.size]? = some (.cells #[.int .i64 n.f0, .int .i64 n.f1.f0, .string n.f1.f1, .slice A n.f2.length cc] 26 (0, 0))) ∧ Aside0 (Kd.R (Kd.int .i64) 3 w' w.heap.size (fun _ => True) v7 acc) ∧ Aside0 (Below w.heap.size w w'))
     case atStart => exact ⟨⟨a0_0, ⟨a0_1, a0_2⟩, l0_3⟩, A0_3, c0_3, o1, [], (by first | rfl | rw [ho2]), HL, ⟨HR.out, hc0_3⟩, HG2, ⟨Kd.R_nil _ _ _ _ _⟩, HB2⟩
     case round =>
      clear HL HG HG1 HG2 HB HB1 HB2 HF HW z0 z1 z2 z3 ho2 c1b c2b c3b; obtain ⟨n, A, cc, off, acc, rfl, HA, HC, HG, HO, HB⟩ := hrel
      cases gk with
      | zero => exact absurd HA.out (by simp [tree_Find.go])
      | succ kq =>
      have H := HA.out; rw [tree_Find.go] at H; clear HA; have z0 : wr.cell? ⟨w.heap.size, 0, none⟩ = some (.int .i64 n.f0) := Lib.cell_of_heap HG.out 0; have z3 : wr.cell? ⟨w.heap.size, 3, none⟩ = some (.slice A n.f2.length cc) := Lib.cell_of_heap HG.out 3; have hmax : n.f2.length ≤ 9223372036854775807 := HC.out.1.2.1; by_cases c4 : n.f0 = 1
      ·rw [if_pos c4] at H; injection H with H; subst H; have c4b : (n.f0 != 1) = false := bne_eq_false_iff_eq.mpr c4; clear c4; go_wp2
       (try rw [Exit.noGoto_ret])
       go_ret2
       exact ⟨_, rfl, HO.out, HB.out⟩
      ·rw [if_neg c4] at H; have c4b : (n.f0 != 1) = true := bne_iff_ne.mpr c4; clear c4; obtain ⟨⟨j, x, o2⟩, hs, Hn⟩ := Option.bind_eq_some_iff.mp H; clear H; obtain ⟨hlen, Hn⟩ := Ut.ite_some Hn; have HS := Aside0.mk hs; have HN := Aside0.mk Hn; clear hs Hn; go_wp2
       go_loopg [1, 7, 35] n.f2.length (fun kq2 v1 v7 v35 w' => ∃ (i : Nat) (o : Int), v1 = .int .i64 o ∧ v35 = .int .i64 (i : Int) ∧ Aside0 (i + kq2 = n.f2.length) ∧ Aside0 (tree_Find.scan k (n.f2.drop i) o i = some (j, x, o2)) ∧ Aside0 (w'.heap[w.heap.size]? = some (.cells #[.int .i64 n.f0, .int .i64 n.f1.f0, .string n.f1.f1, .slice A n.f2.length cc] 26 (0, 0))) ∧ Aside0 (Kd.R (Kd.int .i64) 3 w' w.heap.size (fun _ => True) v7 acc) ∧ Aside0 (Below w.heap.size w w'))
       case atStart => exact ⟨0, off, rfl, rfl, ⟨by omega⟩, HS, HG, HO, HB⟩
       case round =>
        clear HS HG HO HB z0 z3; obtain ⟨i, o, rfl, rfl, HK, HS, HG, HO, HB⟩ := hrel; by_cases hlt : i < n.f2.length
        ·have hd1 : decide ((i : Int) < (n.f2.length : Int)) = true := decide_eq_true (by omega); have S := HS.out; rw [List.drop_eq_getElem_cons hlt] at S; simp only [tree_Find.scan] at S; obtain ⟨wy, hwy, Sn⟩ := Option.bind_eq_some_iff.mp S; clear S HS
         have hrd : rd_T26 n.f2 (i : Int) = n.f2[i] := (by simp [rd_T26, hlt])
         obtain ⟨ad, A3, c3, e, hx0, hx1, hx2, hx3, hl3, hC3⟩ := at_T26 HC.out.1 (i : Int) (by omega) (by omega); rw [hrd] at hx0 hx1 hx2 hx3 hl3 hC3; rw [Int.toNat_natCast] at hx0 hx1 hx2 hx3; subst e; replace hx0 := zh HB hx0; replace hx1 := zh HB hx1; replace hx2 := zh HB hx2; replace hx3 := zh HB hx3; clear hrd; generalize n.f2[i] = y at *; have HW := Aside0.mk hwy; have HC3 := Aside0.mk (And.intro hC3 hl3); have HB1 := Aside0.mk (below_alloc HB.out (.cells #[.int .i64 y.f0, .int .i64 y.f1.f0, .string y.f1.f1, .slice A3 y.f2.length c3] 26)); have HG1 := Aside0.mk (blk_alloc HG.out (.cells #[.int .i64 y.f0, .int .i64 y.f1.f0, .string y.f1.f1, .slice A3 y.f2.length c3] 26)); have HY1 := Aside0.mk (blk_new wr (.cells #[.int .i64 y.f0, .int .i64 y.f1.f0, .string y.f1.f1, .slice A3 y.f2.length c3] 26)); have HO1 := Aside0.mk (Kd.R_alloc HO.out (.cells #[.int .i64 y.f0, .int .i64 y.f1.f0, .string y.f1.f1, .slice A3 y.f2.length c3] 26)); clear hwy hC3 hl3; by_cases c5 : o < wy
         ·rw [if_pos c5] at Sn; simp only [Option.some.injEq, Prod.mk.injEq] at Sn; obtain ⟨rfl, rfl, rfl⟩ := Sn; have c5b : decide (o < wy) = true := decide_eq_true c5; clear c5
          go_wp2_with (first | (go_at_call 55; refine (tree_width.calls k _ _ _ _ _ _ _ _ (Kd.C_below HC3.out.1 HB1.out) HC3.out.2 HW.out).mono ?_; rintro e w3 ⟨rfl, hb⟩; have HB3 := Aside0.mk (token_good.step HB1.out hb); have HG3 := Aside0.mk (blk_below HG1.out hb); have HY3 := Aside0.mk (blk_below HY1.out hb); have HO3 := Aside0.mk (Kd.R_below HO1.out hb); clear hb) | (at_builtin; refine Kd.R_append (Kd.int .i64) (w0 := w) w.heap.size rfl (.tmp 45) (.tmp 47) 30 3 (.int .i64 0) 8 rfl Try.underlying30 tree_Find.infoInt rfl (by decide) (by omega) u7 acc (i : Int) [.int .i64 (i : Int)] (fun _ => True) (fun _ => False) rfl rfl rfl (fun _ hk => hk.elim) (fun _ _ => trivial) HO3.out HB3.out (below_size HB3.out) (by omega) ?_; intro v8 w4 ho hb hg hat; have HB4 := Aside0.mk hb; have HO4 := Aside0.mk ho; have HG4 := Aside0.mk (blk_grown HG3.out hg (Kd.R_ne HO3.out HG3.out (by decide))); have HY4 := Aside0.mk (blk_grown HY3.out hg (Kd.R_ne HO3.out HY3.out (by decide))); clear ho hb hg hat; have y0 : w4.cell? ⟨wr.heap.size, 0, none⟩ = some (.int .i64 y.f0) := Lib.cell_of_heap HY4.out 0; have y1 : w4.cell? ⟨wr.heap.size, 1, none⟩ = some (.int .i64 y.f1.f0) := Lib.cell_of_heap HY4.out 1; have y2 : w4.cell? ⟨wr.heap.size, 2, none⟩ = some (.string y.f1.f1) := Lib.cell_of_heap HY4.out 2; have y3 : w4.cell? ⟨wr.heap.size, 3, none⟩ = some (.slice A3 y.f2.length c3) := Lib.cell_of_heap HY4.out 3; have z0 : w4.cell? ⟨w.heap.size, 0, none⟩ = some (.int .i64 n.f0) := Lib.cell_of_heap HG4.out 0; have z1 : w4.cell? ⟨w.heap.size, 1, none⟩ = some (.int .i64 n.f1.f0) := Lib.cell_of_heap HG4.out 1; have z2 : w4.cell? ⟨w.heap.size, 2, none⟩ = some (.string n.f1.f1) := Lib.cell_of_heap HG4.out 2; have z3 : w4.cell? ⟨w.heap.size, 3, none⟩ = some (.slice (some ad) n.f2.length cc) := Lib.cell_of_heap HG4.out 3; have d0 := Lib.frozen_of_heap HG4.out 0; have d1 := Lib.frozen_of_heap HG4.out 1; have d2 := Lib.frozen_of_heap HG4.out 2; have d3 := Lib.frozen_of_heap HG4.out 3))
          go_roundg kq
          case measure => omega
          case rel => exact ⟨y, A3, c3, o, acc ++ [(i : Int)], rfl, HN, HC3, ⟨by refine blk_put (cs := #[.int .i64 y.f0, .int .i64 y.f1.f0, .string y.f1.f1, .slice (some ad) n.f2.length cc]) ?_ 3 _ rfl; refine blk_put (cs := #[.int .i64 y.f0, .int .i64 y.f1.f0, .string n.f1.f1, .slice (some ad) n.f2.length cc]) ?_ 2 _ rfl; refine blk_put (cs := #[.int .i64 y.f0, .int .i64 n.f1.f0, .string n.f1.f1, .slice (some ad) n.f2.length cc]) ?_ 1 _ rfl; refine blk_put (cs := #[.int .i64 n.f0, .int .i64 n.f1.f0, .string n.f1.f1, .slice (some ad) n.f2.length cc]) ?_ 0 _ rfl; exact HG4.out⟩, ⟨by refine Kd.R_set (Kd.R_set (Kd.R_set (Kd.R_set HO4.out HG4.out ?ht 0 _) (blk_put HG4.out 0 _ rfl) ?ht 1 _) (blk_put (blk_put HG4.out 0 _ rfl) 1 _ rfl) ?ht 2 _) (blk_put (blk_put (blk_put HG4.out 0 _ rfl) 1 _ rfl) 2 _ rfl) ?ht 3 _; intro q hq e; subst e; revert hq; decide⟩, ⟨by repeat (first | exact HB4.out | refine below_set ?_ (Nat.le_refl _))⟩⟩
         ·rw [if_neg c5] at Sn; have HS2 := Aside0.mk Sn; have c5b : decide (o < wy) = false := decide_eq_false c5; clear c5 Sn
          cases gk with
          | zero => exact absurd hlt (by have := HK.out; omega)
          | succ kq2 =>
          go_wp2_with (go_at_call 55; refine (tree_width.calls k _ _ _ _ _ _ _ _ (Kd.C_below HC3.out.1 HB1.out) HC3.out.2 HW.out).mono ?_; rintro e w3 ⟨rfl, hb⟩; have HB3 := Aside0.mk (token_good.step HB1.out hb); have HG3 := Aside0.mk (blk_below HG1.out hb); have HO3 := Aside0.mk (Kd.R_below HO1.out hb); clear hb)
          go_roundg kq2
          case measure => omega
          case rel => exact ⟨i + 1, _, rfl, by go_num, ⟨by have := HK.out; omega⟩, HS2, HG3, HO3, HB3⟩
        ·have S := HS.out; rw [List.drop_of_length_le (by have := HK.out; omega)] at S
         simp [tree_Find.scan] at S

end Go.Proofs.Ytnafnieocpkkhaa.P

namespace Go.Proofs.Ytnafnieocpkkhaa.P
open Go.RowKit Go.Proofs.YtnafnieocpkkhaaW.PrintWords Go.Proofs.YtnafnieocpkkhaaW.PrintLast Go.Proofs.YtnafnieocpkkhaaW.PrintMore
attribute [local go_sem] max2_int min2_int max_two min_two max_three min_three max_four min_four
set_option linter.unusedVariables false
set_option linter.unusedSimpArgs false

mutual
def tree_Cover.l0 : Nat → List Int → Int → Int → Int → ByteArray → List (S26) → Int → Int → Option (List Int × Int)
 | 0, _, _, _, _, _, _, _, _ => none
 | k + 1, x6, x7, x180000, x180001, x180002, x180003, x181000, x181001 => tree_Cover.l1 k x6 (-1) 0 x7 x180003 (x180003.length : Int) 0 x180000 x180001 x180002 x180003 x181000 x181001
def tree_Cover.l1 : Nat → List Int → Int → Int → Int → List (S26) → Int → Int → Int → Int → ByteArray → List (S26) → Int → Int → Option (List Int × Int)
 | 0, _, _, _, _, _, _, _, _, _, _, _, _, _ => none
 | k + 1, x6, x8, x9, x10, x36, x37, x38, x180000, x180001, x180002, x180003, x181000, x181001 => if x38 < x37 then (if 0 ≤ x38 then (if x38 < (x36.length : Int) then ((tree_width.f k ((rd_T26 x36 x38).f0) ((rd_T26 x36 x38).f1.f0) ((rd_T26 x36 x38).f1.f1) ((rd_T26 x36 x38).f2)).bind fun t185 => (if x10 ≤ x181000 then (if x181001 ≤ (wrap64 (x10 + t185)) then (tree_Cover.l1 k x6 x38 x10 (wrap64 (x10 + t185)) x36 x37 (wrap64 (x38 + 1)) x180000 x180001 x180002 x180003 x181000 x181001) else (tree_Cover.l1 k x6 x8 x9 (wrap64 (x10 + t185)) x36 x37 (wrap64 (x38 + 1)) x180000 x180001 x180002 x180003 x181000 x181001)) else (tree_Cover.l1 k x6 x8 x9 (wrap64 (x10 + t185)) x36 x37 (wrap64 (x38 + 1)) x180000 x180001 x180002 x180003 x181000 x181001))) else (none)) else (none)) else (if x8 < 0 then (some (x6, 0)) else (if x6.length < 17592186044416 then (if 0 ≤ x8 then (if x8 < (x180003.length : Int) then (tree_Cover.l0 k (x6 ++ [x8]) x9 ((rd_T26 x180003 x8).f0) ((rd_T26 x180003 x8).f1.f0) ((rd_T26 x180003 x8).f1.f1) ((rd_T26 x180003 x8).f2) x181000 x181001) else (none)) else (none)) else (none)))
end
def tree_Cover.f (k : Nat) (a0_0 : Int) (a0_1 : Int) (a0_2 : ByteArray) (l0_3 : List (S26)) (a1_0 : Int) (a1_1 : Int) : Option (List Int × Int) := (tree_IsFormed.f k a0_0 a0_1 a0_2 l0_3).bind fun t181 => (if t181 = true then (if a1_0 < 0 then (none) else (if a1_0 > a1_1 then (none) else ((tree_width.f k a0_0 a0_1 a0_2 l0_3).bind fun t182 => (if a1_1 > t182 then (none) else (tree_Cover.l0 k ([] : List Int) 0 a0_0 a0_1 a0_2 l0_3 a1_0 a1_1))))) else (none))
theorem tree_Cover.info : (Try.prog.info? 3).map (fun i => (i.zero, i.size, i.bytes)) = some (some (.int .i64 0), 1, 8) := by kernel_rfl
set_option maxHeartbeats 8000000 in
set_option maxRecDepth 100000 in
theorem tree_Cover.calls (k : Nat) (a0_0 : Int) (a0_1 : Int) (a0_2 : ByteArray) (A0_3 : Option Addr) (c0_3 : Nat) (l0_3 : List (S26)) (a1_0 : Int) (a1_1 : Int) (r1 : List Int) (r2 : Int) (w : World) (hr0_3 : Kd.C k26 w A0_3 l0_3.length l0_3) (hc0_3 : l0_3.length ≤ c0_3) (h : tree_Cover.f k a0_0 a0_1 a0_2 l0_3 a1_0 a1_1 = some (r1, r2)) :
  Calls Try.prog 17 #[.agg #[.int .i64 a0_0, .int .i64 a0_1, .string a0_2, .slice A0_3 l0_3.length c0_3], .agg #[.int .i64 a1_0, .int .i64 a1_1]] w fun e w' => ∃ v0_ : Value, e = .returned (.tuple #[v0_, .int .i64 r2]) ∧ Kd.R (Kd.int .i64) 3 w' w.heap.size (fun _ => True) v0_ r1 ∧ Below w.heap.size w w' := by
 have hu := Try.underlying26; have hu2 := Try.underlying28; unfold tree_Cover.f at h; obtain ⟨b, hb, h⟩ := Option.bind_eq_some_iff.mp h
 cases b with
 | false => exact absurd h (by simp)
 | true =>
 rw [if_pos rfl] at h; by_cases c1 : a1_0 < 0
 ·rw [if_pos c1] at h; cases h
 rw [if_neg c1] at h; by_cases c2 : a1_0 > a1_1
 ·rw [if_pos c2] at h; cases h
 rw [if_neg c2] at h; obtain ⟨wd, hwd, h⟩ := Option.bind_eq_some_iff.mp h; by_cases c3 : a1_1 > wd
 ·rw [if_pos c3] at h; cases h
 rw [if_neg c3] at h; have d1 : decide (a1_0 < 0) = false := decide_eq_false c1; have d2 : decide (a1_1 < a1_0) = false := decide_eq_false c2; have d3 : decide (wd < a1_1) = false := decide_eq_false c3; have hw2 : Below w.heap.size w ((w.alloc (.cells #[.int .i64 a0_0, .int .i64 a0_1, .string a0_2, .slice A0_3 l0_3.length c0_3] 26)).alloc (.cells #[.int .i64 a1_0, .int .i64 a1_1] 28)) := below_alloc (below_alloc (Below.refl _ _) _) _; have Cn := Aside0.mk (Kd.C_below hr0_3 hw2); have C0 := Aside0.mk hr0_3; have HB := Aside0.mk hw2; have H2 := Aside0.mk (show ((w.alloc (.cells #[.int .i64 a0_0, .int .i64 a0_1, .string a0_2, .slice A0_3 l0_3.length c0_3] 26)).alloc (.cells #[.int .i64 a1_0, .int .i64 a1_1] 28)).heap[w.heap.size]? = some (.cells #[.int .i64 a0_0, .int .i64 a0_1, .string a0_2, .slice A0_3 l0_3.length c0_3] 26 (0, 0)) from blk_alloc (blk_new w _) _); have H3 := Aside0.mk (show ((w.alloc (.cells #[.int .i64 a0_0, .int .i64 a0_1, .string a0_2, .slice A0_3 l0_3.length c0_3] 26)).alloc (.cells #[.int .i64 a1_0, .int .i64 a1_1] 28)).heap[w.heap.size + 1]? = some (.cells #[.int .i64 a1_0, .int .i64 a1_1] 28 (0, 0)) by simpa using blk_new (w.alloc (.cells #[.int .i64 a0_0, .int .i64 a0_1, .string a0_2, .slice A0_3 l0_3.length c0_3] 26)) (.cells #[.int .i64 a1_0, .int .i64 a1_1] 28)); have E1 := Aside0.mk hb; have E2 := Aside0.mk hwd; have HH := Aside0.mk h; clear hr0_3 hw2 h hb hwd c1 c2 c3; go_enter Try.func17, Try.ntmps17; go_wp2_with fail; refine (tree_IsFormed.calls k a0_0 a0_1 a0_2 A0_3 c0_3 l0_3 true _ Cn.out hc0_3 E1.out).mono ?_; rintro e w3 ⟨rfl, hb⟩; replace Cn := Aside0.mk (Kd.C_below Cn.out hb); replace H2 := Aside0.mk (blk_below H2.out hb); replace H3 := Aside0.mk (blk_below H3.out hb); replace HB := Aside0.mk (Cl.bstep HB.out hb); clear hb; obtain ⟨yH2_0, yH2_1, yH2_2, yH2_3⟩ := Cl.four H2.out; obtain ⟨yH3_0, yH3_1⟩ := Cl.two H3.out; go_wp2_with fail
 have hS : (fun w' : World => w'.cell? ⟨w.heap.size, 0, none⟩ = some (.int .i64 a0_0) ∧ w'.cell? ⟨w.heap.size, 1, none⟩ = some (.int .i64 a0_1) ∧ w'.cell? ⟨w.heap.size, 2, none⟩ = some (.string a0_2) ∧ w'.cell? ⟨w.heap.size, 3, none⟩ = some (.slice A0_3 l0_3.length c0_3) ∧ w'.cell? ⟨w.heap.size + 1, 0, none⟩ = some (.int .i64 a1_0) ∧ w'.cell? ⟨w.heap.size + 1, 1, none⟩ = some (.int .i64 a1_1)) w3.drew := ⟨yH2_0, yH2_1, yH2_2, yH2_3, yH3_0, yH3_1⟩
 have hd := below_drew1 (Below.refl w3.heap.size w3); replace Cn := Aside0.mk (Kd.C_below Cn.out hd); replace H2 := Aside0.mk (blk_below H2.out hd); replace H3 := Aside0.mk (blk_below H3.out hd); replace HB := Aside0.mk (Cl.bstep HB.out hd); clear hd; refine start_ (n := 17) (S := fun w' => w'.cell? ⟨w.heap.size, 0, none⟩ = some (.int .i64 a0_0) ∧ w'.cell? ⟨w.heap.size, 1, none⟩ = some (.int .i64 a0_1) ∧ w'.cell? ⟨w.heap.size, 2, none⟩ = some (.string a0_2) ∧ w'.cell? ⟨w.heap.size, 3, none⟩ = some (.slice A0_3 l0_3.length c0_3) ∧ w'.cell? ⟨w.heap.size + 1, 0, none⟩ = some (.int .i64 a1_0) ∧ w'.cell? ⟨w.heap.size + 1, 1, none⟩ = some (.int .i64 a1_1)) (ds := []) #[false, false, false, false, false, false, false, false, false, false, false, false, false, false, false, false, false] (by kernel_rfl) rfl rfl hS (fun hHeld => ?_); refine take_ (i := 0) (N := some 17) (v := ?_) (a' := ?_) #[true, false, false, false, false, false, false, false, false, false, false, false, false, false, false, false, false] rfl rfl (by kernel_rfl) (fun _ _ _ h => h) (Or.inl ⟨by rfl, ?_⟩) hHeld ?_ ?_; rotate_left
 ·rintro w' ⟨s0, s1, s2, s3, s4, s5⟩; go_simp; with_reducible rfl
 rotate_left
 ·simp only [Act.put, List.setIfInBounds_toArray, List.set_cons_zero, List.set_cons_succ, i64_w, i32_w]; rfl
 refine take_ (i := 1) (N := some 18) (v := ?_) (a' := ?_) #[true, true, false, false, false, false, false, false, false, false, false, false, false, false, false, false, false] rfl rfl (by kernel_rfl) (fun _ _ _ h => h) (Or.inl ⟨by rfl, ?_⟩) hHeld ?_ ?_; rotate_left
 ·rintro w' ⟨s0, s1, s2, s3, s4, s5⟩; go_simp; with_reducible rfl
 rotate_left
 ·simp only [Act.put, List.setIfInBounds_toArray, List.set_cons_zero, List.set_cons_succ, i64_w, i32_w]; rfl
 refine take_ (i := 2) (N := some 19) (v := ?_) (a' := ?_) #[true, true, true, false, false, false, false, false, false, false, false, false, false, false, false, false, false] rfl rfl (by kernel_rfl) (fun _ _ _ h => h) (Or.inl ⟨by rfl, ?_⟩) hHeld ?_ ?_; rotate_left
 ·rintro w' ⟨s0, s1, s2, s3, s4, s5⟩; go_simp; with_reducible rfl
 rotate_left
 ·simp only [Act.put, List.setIfInBounds_toArray, List.set_cons_zero, List.set_cons_succ, i64_w, i32_w]; rfl
 refine take_ (i := 3) (N := some 20) (v := ?_) (a' := ?_) #[true, true, true, true, false, false, false, false, false, false, false, false, false, false, false, false, false] rfl rfl (by kernel_rfl) (fun _ _ _ h => h) (Or.inl ⟨by rfl, ?_⟩) hHeld ?_ ?_; rotate_left
 ·rintro w' ⟨s0, s1, s2, s3, s4, s5⟩; go_simp; with_reducible rfl
 rotate_left
 ·simp only [Act.put, List.setIfInBounds_toArray, List.set_cons_zero, List.set_cons_succ, i64_w, i32_w]; rfl
 refine take_ (i := 4) (N := some 21) (v := ?_) (a' := ?_) #[true, true, true, true, true, false, false, false, false, false, false, false, false, false, false, false, false] rfl rfl (by kernel_rfl) (fun _ _ _ h => h) (Or.inl ⟨by rfl, ?_⟩) hHeld ?_ ?_; rotate_left
 ·rintro w' ⟨s0, s1, s2, s3, s4, s5⟩; go_simp; with_reducible rfl
 rotate_left
 ·simp only [Act.put, List.setIfInBounds_toArray, List.set_cons_zero, List.set_cons_succ, i64_w, i32_w]; rfl
 refine take_ (i := 5) (N := some 22) (v := ?_) (a' := ?_) #[true, true, true, true, true, true, false, false, false, false, false, false, false, false, false, false, false] rfl rfl (by kernel_rfl) (fun _ _ _ h => h) (Or.inl ⟨by rfl, ?_⟩) hHeld ?_ ?_; rotate_left
 ·rintro w' ⟨s0, s1, s2, s3, s4, s5⟩; go_simp; with_reducible rfl
 rotate_left
 ·simp only [Act.put, List.setIfInBounds_toArray, List.set_cons_zero, List.set_cons_succ, i64_w, i32_w]; rfl
 refine take_ (i := 6) (N := some 23) (v := ?_) (a' := ?_) #[true, true, true, true, true, true, true, false, false, false, false, false, false, false, false, false, false] rfl rfl (by kernel_rfl) (fun _ _ _ h => h) (Or.inl ⟨by rfl, ?_⟩) hHeld ?_ ?_; rotate_left
 ·rintro w' ⟨s0, s1, s2, s3, s4, s5⟩; go_simp; with_reducible rfl
 rotate_left
 ·simp only [Act.put, List.setIfInBounds_toArray, List.set_cons_zero, List.set_cons_succ, i64_w, i32_w]; rfl
 refine take_ (i := 7) (N := some 24) (v := ?_) (a' := ?_) #[true, true, true, true, true, true, true, true, false, false, false, false, false, false, false, false, false] rfl rfl (by kernel_rfl) (fun _ _ _ h => h) (Or.inl ⟨by rfl, ?_⟩) hHeld ?_ ?_; rotate_left
 ·rintro w' ⟨s0, s1, s2, s3, s4, s5⟩; go_simp; with_reducible rfl
 rotate_left
 ·simp only [Act.put, List.setIfInBounds_toArray, List.set_cons_zero, List.set_cons_succ, i64_w, i32_w]; rfl
 refine take_ (i := 8) (N := some 25) (v := ?_) (a' := ?_) #[true, true, true, true, true, true, true, true, true, false, false, false, false, false, false, false, false] rfl rfl (by kernel_rfl) (fun _ _ _ h => h) (Or.inl ⟨by rfl, ?_⟩) hHeld ?_ ?_; rotate_left
 ·rintro w' ⟨s0, s1, s2, s3, s4, s5⟩; go_simp; with_reducible rfl
 rotate_left
 ·simp only [Act.put, List.setIfInBounds_toArray, List.set_cons_zero, List.set_cons_succ, i64_w, i32_w]; rfl
 refine take_ (i := 9) (N := some 26) (v := ?_) (a' := ?_) #[true, true, true, true, true, true, true, true, true, true, false, false, false, false, false, false, false] rfl rfl (by kernel_rfl) (fun _ _ _ h => h) (Or.inl ⟨by rfl, ?_⟩) hHeld ?_ ?_; rotate_left
 ·rintro w' ⟨s0, s1, s2, s3, s4, s5⟩; go_simp; with_reducible rfl
 rotate_left
 ·simp only [Act.put, List.setIfInBounds_toArray, List.set_cons_zero, List.set_cons_succ, i64_w, i32_w]; rfl
 refine take_ (i := 10) (N := some 27) (v := ?_) (a' := ?_) #[true, true, true, true, true, true, true, true, true, true, true, false, false, false, false, false, false] rfl rfl (by kernel_rfl) (fun _ _ _ h => h) (Or.inl ⟨by rfl, ?_⟩) hHeld ?_ ?_; rotate_left
 ·rintro w' ⟨s0, s1, s2, s3, s4, s5⟩; go_simp; with_reducible rfl
 rotate_left
 ·simp only [Act.put, List.setIfInBounds_toArray, List.set_cons_zero, List.set_cons_succ, i64_w, i32_w]; rfl
 refine take_ (i := 11) (N := some 28) (v := ?_) (a' := ?_) #[true, true, true, true, true, true, true, true, true, true, true, true, false, false, false, false, false] rfl rfl (by kernel_rfl) (fun _ _ _ h => h) (Or.inl ⟨by rfl, ?_⟩) hHeld ?_ ?_; rotate_left
 ·rintro w' ⟨s0, s1, s2, s3, s4, s5⟩; go_simp; with_reducible rfl
 rotate_left
 ·simp only [Act.put, List.setIfInBounds_toArray, List.set_cons_zero, List.set_cons_succ, i64_w, i32_w]; rfl
 refine take_ (i := 12) (N := some 29) (v := ?_) (a' := ?_) #[true, true, true, true, true, true, true, true, true, true, true, true, true, false, false, false, false] rfl rfl (by kernel_rfl) (fun _ _ _ h => h) (Or.inl ⟨by rfl, ?_⟩) hHeld ?_ ?_; rotate_left
 ·rintro w' ⟨s0, s1, s2, s3, s4, s5⟩; go_simp; with_reducible rfl
 rotate_left
 ·simp only [Act.put, List.setIfInBounds_toArray, List.set_cons_zero, List.set_cons_succ, i64_w, i32_w]; rfl
 refine take_ (i := 13) (N := some 30) (v := ?_) (a' := ?_) #[true, true, true, true, true, true, true, true, true, true, true, true, true, true, false, false, false] rfl rfl (by kernel_rfl) (fun _ _ _ h => h) (Or.inl ⟨by rfl, ?_⟩) hHeld ?_ ?_; rotate_left
 ·rintro w' ⟨s0, s1, s2, s3, s4, s5⟩; go_simp; with_reducible rfl
 rotate_left
 ·simp only [Act.put, List.setIfInBounds_toArray, List.set_cons_zero, List.set_cons_succ, i64_w, i32_w]; rfl
 refine one_ (i := 14) (N := some 31) #[true, true, true, true, true, true, true, true, true, true, true, true, true, true, true, false, false] rfl rfl (by kernel_rfl) (by decide) (fun K hK => ?_); go_simp; go_at_call 55; refine (tree_width.calls k a0_0 a0_1 a0_2 A0_3 c0_3 l0_3 wd _ Cn.out hc0_3 E2.out).mono ?_; rintro e w4 ⟨rfl, hb⟩
 have hk4 : (fun w' : World => w'.cell? ⟨w.heap.size, 0, none⟩ = some (.int .i64 a0_0) ∧ w'.cell? ⟨w.heap.size, 1, none⟩ = some (.int .i64 a0_1) ∧ w'.cell? ⟨w.heap.size, 2, none⟩ = some (.string a0_2) ∧ w'.cell? ⟨w.heap.size, 3, none⟩ = some (.slice A0_3 l0_3.length c0_3) ∧ w'.cell? ⟨w.heap.size + 1, 0, none⟩ = some (.int .i64 a1_0) ∧ w'.cell? ⟨w.heap.size + 1, 1, none⟩ = some (.int .i64 a1_1)) w4 := ⟨pw_cell_below hb hHeld.1, pw_cell_below hb hHeld.2.1, pw_cell_below hb hHeld.2.2.1, pw_cell_below hb hHeld.2.2.2.1, pw_cell_below hb hHeld.2.2.2.2.1, pw_cell_below hb hHeld.2.2.2.2.2⟩
 replace Cn := Aside0.mk (Kd.C_below Cn.out hb); replace H2 := Aside0.mk (blk_below H2.out hb); replace H3 := Aside0.mk (blk_below H3.out hb); replace HB := Aside0.mk (Cl.bstep HB.out hb); clear hb; refine hK.out _ _ hk4 (fun hHeld => ?_); clear hK K; refine take_ (i := 15) (N := some 32) (v := ?_) (a' := ?_) #[true, true, true, true, true, true, true, true, true, true, true, true, true, true, true, true, false] rfl rfl (by kernel_rfl) (fun _ _ _ h => h) (Or.inl ⟨by rfl, ?_⟩) hHeld ?_ ?_; rotate_left
 ·rintro w' ⟨s0, s1, s2, s3, s4, s5⟩; go_simp; with_reducible rfl
 rotate_left
 ·simp only [Act.put, List.setIfInBounds_toArray, List.set_cons_zero, List.set_cons_succ, i64_w, i32_w]; rfl
 refine take_ (i := 16) (N := some 33) (v := ?_) (a' := ?_) #[true, true, true, true, true, true, true, true, true, true, true, true, true, true, true, true, true] rfl rfl (by kernel_rfl) (fun _ _ _ h => h) (Or.inl ⟨by rfl, ?_⟩) hHeld ?_ ?_; rotate_left
 ·rintro w' ⟨s0, s1, s2, s3, s4, s5⟩; go_simp; with_reducible rfl
 rotate_left
 ·simp only [Act.put, List.setIfInBounds_toArray, List.set_cons_zero, List.set_cons_succ, i64_w, i32_w]; rfl
 refine done_ (by kernel_rfl) ?_; clear yH2_0 yH2_1 yH2_2 yH2_3 yH3_0 yH3_1 hS hHeld hk4 E1 E2 d1 d2 d3; go_wp2_with fail
 go_loopg [6, 7] k (fun kq v6 v7 w' => ∃ (n : S26) (A : Option Addr) (cc : Nat) (acc : List Int) (fr : Int), v7 = .int .i64 fr ∧ Aside0 (tree_Cover.l0 kq acc fr n.f0 n.f1.f0 n.f1.f1 n.f2 a1_0 a1_1 = some (r1, r2)) ∧ Aside0 (Kd.C k26 w A n.f2.length n.f2 ∧ n.f2.length ≤ cc) ∧ Aside0 (w'.heap[w.heap.size]? = some (.cells #[.int .i64 n.f0, .int .i64 n.f1.f0, .string n.f1.f1, .slice A n.f2.length cc] 26 (0, 0))) ∧ Aside0 (w'.heap[w.heap.size + 1]? = some (.cells #[.int .i64 a1_0, .int .i64 a1_1] 28 (0, 0))) ∧ Aside0 (Kd.R (Kd.int .i64) 3 w' w.heap.size (fun _ => True) v6 acc) ∧ Aside0 (Below w.heap.size w w'))
 case atStart => exact ⟨⟨a0_0, ⟨a0_1, a0_2⟩, l0_3⟩, A0_3, c0_3, [], 0, rfl, HH, ⟨C0.out, hc0_3⟩, H2, H3, ⟨Kd.R_nil _ _ _ _ _⟩, HB⟩
 case round =>
  clear HH C0 Cn H2 H3 HB; obtain ⟨n, A, cc, acc, fr, rfl, HA, HC, HG, HS, HO, HB⟩ := hrel
  cases gk with
  | zero => exact absurd HA.out (by simp [tree_Cover.l0])
  | succ kq =>
  have H := HA.out; rw [tree_Cover.l0] at H; have HL := Aside0.mk H; clear HA H; obtain ⟨z0, z1, z2, z3⟩ := Cl.four HG.out; obtain ⟨s0, s1⟩ := Cl.two HS.out; have hmax : n.f2.length ≤ 9223372036854775807 := HC.out.1.2.1; go_wp2_with fail
  go_loopg [8, 9, 10, 38] kq (fun kq2 v8 v9 v10 v38 w' => ∃ (nx bg at_ : Int) (i : Nat), v8 = .int .i64 nx ∧ v9 = .int .i64 bg ∧ v10 = .int .i64 at_ ∧ v38 = .int .i64 (i : Int) ∧ Aside0 (kq2 ≤ kq) ∧ Aside0 (tree_Cover.l1 kq2 acc nx bg at_ n.f2 (n.f2.length : Int) (i : Int) n.f0 n.f1.f0 n.f1.f1 n.f2 a1_0 a1_1 = some (r1, r2)) ∧ Aside0 (w'.heap[w.heap.size]? = some (.cells #[.int .i64 n.f0, .int .i64 n.f1.f0, .string n.f1.f1, .slice A n.f2.length cc] 26 (0, 0))) ∧ Aside0 (w'.heap[w.heap.size + 1]? = some (.cells #[.int .i64 a1_0, .int .i64 a1_1] 28 (0, 0))) ∧ Aside0 (Kd.R (Kd.int .i64) 3 w' w.heap.size (fun _ => True) u6 acc) ∧ Aside0 (Below w.heap.size w w'))
  case atStart => exact ⟨-1, 0, fr, 0, rfl, rfl, rfl, rfl, ⟨Nat.le_refl _⟩, HL, HG, HS, HO, HB⟩
  case round =>
   clear HL HG HS HO HB z0 z1 z2 z3 s0 s1; obtain ⟨nx, bg, at_, i, rfl, rfl, rfl, rfl, HK, HL, HG, HS, HO, HB⟩ := hrel
   cases gk with
   | zero => exact absurd HL.out (by simp [tree_Cover.l1])
   | succ kq2 =>
   have H := HL.out; simp only [tree_Cover.l1] at H; clear HL; obtain ⟨s0, s1⟩ := Cl.two HS.out; by_cases hlt : (i : Int) < (n.f2.length : Int)
   ·rw [if_pos hlt] at H; rw [if_pos (by omega), if_pos hlt] at H; obtain ⟨t, ht, H⟩ := Option.bind_eq_some_iff.mp H; have hd1 : decide ((i : Int) < (n.f2.length : Int)) = true := decide_eq_true hlt
    have hin : i < n.f2.length := (by omega)
    have hrd : rd_T26 n.f2 (i : Int) = n.f2[i] := (by simp [rd_T26, hin])
    obtain ⟨ad, A3, c3, e, hx0, hx1, hx2, hx3, hl3, hC3⟩ := at_T26 HC.out.1 (i : Int) (by omega) hlt; rw [hrd] at hx0 hx1 hx2 hx3 hl3 hC3 ht; rw [Int.toNat_natCast] at hx0 hx1 hx2 hx3; subst e; replace hx0 := zh HB hx0; replace hx1 := zh HB hx1; replace hx2 := zh HB hx2; replace hx3 := zh HB hx3; clear hrd; generalize n.f2[i] = y at *; have E2 := Aside0.mk ht; have HC3 := Aside0.mk (And.intro hC3 hl3); have hal := below_alloc (Below.refl wr.heap.size wr) (.cells #[.int .i64 y.f0, .int .i64 y.f1.f0, .string y.f1.f1, .slice A3 y.f2.length c3] 26); have HB1 := Aside0.mk (Cl.bstep HB.out hal); have HG1 := Aside0.mk (blk_below HG.out hal); have HS1 := Aside0.mk (blk_below HS.out hal); have HO1 := Aside0.mk (Kd.R_below HO.out hal); have HY1 := Aside0.mk (blk_new wr (.cells #[.int .i64 y.f0, .int .i64 y.f1.f0, .string y.f1.f1, .slice A3 y.f2.length c3] 26)); clear ht hC3 hl3 hal HO HG HS
    obtain ⟨atN, hatN⟩ : ∃ a : Int, wrap64 (at_ + t) = a := ⟨_, rfl⟩
    rw [hatN] at H
    have ei : wrap64 ((i : Int) + 1) = ((i + 1 : Nat) : Int) := (by (unfold wrap64; omega))
    rw [ei] at H; clear ei; by_cases c1 : at_ ≤ a1_0
    ·rw [if_pos c1] at H; have d1 : decide (at_ ≤ a1_0) = true := decide_eq_true c1; by_cases c2 : a1_1 ≤ atN
     ·rw [if_pos c2] at H; have d2 : decide (a1_1 ≤ atN) = true := decide_eq_true c2; have HL2 := Aside0.mk H; clear H
      go_wp2_with (go_at_call 55; refine (tree_width.calls kq2 _ _ _ _ _ _ _ _ (Kd.C_below HC3.out.1 HB1.out) HC3.out.2 E2.out).mono ?_; rintro e w3 ⟨rfl, hb⟩; have HB3 := Aside0.mk (Cl.bstep HB1.out hb); have HG3 := Aside0.mk (blk_below HG1.out hb); have HS3 := Aside0.mk (blk_below HS1.out hb); have HO3 := Aside0.mk (Kd.R_below HO1.out hb); obtain ⟨q0, q1⟩ := Cl.two HS3.out; clear hb)
      go_roundg kq2
      case measure => omega
      case rel => exact ⟨i, at_, atN, i + 1, by go_num, by go_num, by go_num, by go_num, ⟨by have := HK.out; omega⟩, HL2, HG3, HS3, HO3, HB3⟩
     ·rw [if_neg c2] at H; have d2 : decide (a1_1 ≤ atN) = false := decide_eq_false c2; have HL2 := Aside0.mk H; clear H
      go_wp2_with (go_at_call 55; refine (tree_width.calls kq2 _ _ _ _ _ _ _ _ (Kd.C_below HC3.out.1 HB1.out) HC3.out.2 E2.out).mono ?_; rintro e w3 ⟨rfl, hb⟩; have HB3 := Aside0.mk (Cl.bstep HB1.out hb); have HG3 := Aside0.mk (blk_below HG1.out hb); have HS3 := Aside0.mk (blk_below HS1.out hb); have HO3 := Aside0.mk (Kd.R_below HO1.out hb); obtain ⟨q0, q1⟩ := Cl.two HS3.out; clear hb)
      go_roundg kq2
      case measure => omega
      case rel => exact ⟨nx, bg, atN, i + 1, by go_num, by go_num, by go_num, by go_num, ⟨by have := HK.out; omega⟩, HL2, HG3, HS3, HO3, HB3⟩
    ·rw [if_neg c1] at H; have d1 : decide (at_ ≤ a1_0) = false := decide_eq_false c1; have HL2 := Aside0.mk H; clear H
     go_wp2_with (go_at_call 55; refine (tree_width.calls kq2 _ _ _ _ _ _ _ _ (Kd.C_below HC3.out.1 HB1.out) HC3.out.2 E2.out).mono ?_; rintro e w3 ⟨rfl, hb⟩; have HB3 := Aside0.mk (Cl.bstep HB1.out hb); have HG3 := Aside0.mk (blk_below HG1.out hb); have HS3 := Aside0.mk (blk_below HS1.out hb); have HO3 := Aside0.mk (Kd.R_below HO1.out hb); obtain ⟨q0, q1⟩ := Cl.two HS3.out; clear hb)
     go_roundg kq2
     case measure => omega
     case rel => exact ⟨nx, bg, atN, i + 1, by go_num, by go_num, by go_num, by go_num, ⟨by have := HK.out; omega⟩, HL2, HG3, HS3, HO3, HB3⟩
   ·rw [if_neg hlt] at H; have hd1 : decide ((i : Int) < (n.f2.length : Int)) = false := decide_eq_false hlt; by_cases c4 : nx < 0
    ·rw [if_pos c4] at H; simp only [Option.some.injEq, Prod.mk.injEq] at H; obtain ⟨rfl, rfl⟩ := H; have d4 : decide (nx < 0) = true := decide_eq_true c4; go_wp2
     (try rw [Exit.noGoto_ret])
     go_ret2
     exact ⟨_, rfl, HO.out, HB.out⟩
    ·rw [if_neg c4] at H; obtain ⟨hlen, H⟩ := Ut.ite_some H; obtain ⟨hn0, H⟩ := Ut.ite_some H; obtain ⟨hn1, H⟩ := Ut.ite_some H; have HL2 := Aside0.mk H; have d4 : decide (nx < 0) = false := decide_eq_false c4; clear H; obtain ⟨j, rfl⟩ := Int.eq_ofNat_of_zero_le hn0
     have hin : j < n.f2.length := (by omega)
     have hrd : rd_T26 n.f2 (j : Int) = n.f2[j] := (by simp [rd_T26, hin])
     obtain ⟨ad, A3, c3, e, hx0, hx1, hx2, hx3, hl3, hC3⟩ := at_T26 HC.out.1 (j : Int) (by omega) hn1; rw [hrd] at hx0 hx1 hx2 hx3 hl3 hC3; rw [Int.toNat_natCast] at hx0 hx1 hx2 hx3; subst e; have h2 := HL2.out; rw [hrd] at h2; have HL3 := Aside0.mk h2; clear h2 HL2 hrd; generalize n.f2[j] = y at *; have HC3 := Aside0.mk (And.intro hC3 hl3); have HX := Aside0.mk (And.intro hx0 (And.intro hx1 (And.intro hx2 hx3))); clear hC3 hl3 hx0 hx1 hx2 hx3; obtain ⟨z0, z1, z2, z3⟩ := Cl.four HG.out
     go_wp2_with (first | (at_builtin; refine Kd.R_append (Kd.int .i64) (w0 := w) w.heap.size rfl (.tmp 66) (.tmp 68) 30 3 (.int .i64 0) 8 rfl Try.underlying30 tree_Cover.info rfl (by decide) (by omega) u6 acc (j : Int) [.int .i64 (j : Int)] (fun _ => True) (fun _ => False) rfl rfl rfl (fun _ hk => hk.elim) (fun _ _ => trivial) HO.out HB.out (below_size HB.out) (by omega) ?_; intro v8 w4 ho hb hg hat; have HB4 := Aside0.mk hb; have HO4 := Aside0.mk ho; have HG4 := Aside0.mk (blk_grown HG.out hg (Kd.R_ne HO.out HG.out (by decide))); have HS4 := Aside0.mk (blk_grown HS.out hg (Kd.R_ne HO.out HS.out (by decide))); clear ho hb hg hat; obtain ⟨z0, z1, z2, z3⟩ := Cl.four HG4.out; obtain ⟨f0, f1, f2, f3⟩ := Cl.ffour HG4.out; obtain ⟨x0, x1, x2, x3⟩ := HX.out; replace x0 := (HB4.out.cell (World.block_lt_of_cell? w _ x0)).trans x0; replace x1 := (HB4.out.cell (World.block_lt_of_cell? w _ x1)).trans x1; replace x2 := (HB4.out.cell (World.block_lt_of_cell? w _ x2)).trans x2; replace x3 := (HB4.out.cell (World.block_lt_of_cell? w _ x3)).trans x3))
     go_roundg kq2
     case measure => have := HK.out; omega
     case rel => exact ⟨y, A3, c3, acc ++ [(j : Int)], bg, by go_num, HL3, HC3, ⟨by refine blk_put (cs := #[.int .i64 y.f0, .int .i64 y.f1.f0, .string y.f1.f1, .slice (some ad) n.f2.length cc]) ?_ 3 _ rfl; refine blk_put (cs := #[.int .i64 y.f0, .int .i64 y.f1.f0, .string n.f1.f1, .slice (some ad) n.f2.length cc]) ?_ 2 _ rfl; refine blk_put (cs := #[.int .i64 y.f0, .int .i64 n.f1.f0, .string n.f1.f1, .slice (some ad) n.f2.length cc]) ?_ 1 _ rfl; refine blk_put (cs := #[.int .i64 n.f0, .int .i64 n.f1.f0, .string n.f1.f1, .slice (some ad) n.f2.length cc]) ?_ 0 _ rfl; exact HG4.out⟩, ⟨(Below.heap_setCell _ _ _ _ (by simp)).trans ((Below.heap_setCell _ _ _ _ (by simp)).trans ((Below.heap_setCell _ _ _ _ (by simp)).trans ((Below.heap_setCell _ _ _ _ (by simp)).trans (HS4.out))))⟩, ⟨by refine Kd.R_set (Kd.R_set (Kd.R_set (Kd.R_set HO4.out HG4.out ?ht 0 _) (blk_put HG4.out 0 _ rfl) ?ht 1 _) (blk_put (blk_put HG4.out 0 _ rfl) 1 _ rfl) ?ht 2 _) (blk_put (blk_put (blk_put HG4.out 0 _ rfl) 1 _ rfl) 2 _ rfl) ?ht 3 _; intro q hq e; subst e; revert hq; decide⟩, ⟨by repeat (first | exact HB4.out | refine below_set ?_ (Nat.le_refl _))⟩⟩

end Go.Proofs.Ytnafnieocpkkhaa.P

set_option linter.unusedVariables false
set_option linter.unusedSimpArgs false
namespace Go.Proofs.Ytnafnieocpkkhaa.P
open Go.RowKit Go.Proofs.YtnafnieocpkkhaaW.PrintWords Go.Proofs.YtnafnieocpkkhaaW.PrintLast Go.Proofs.YtnafnieocpkkhaaW.PrintMore
def isF (n : Nd) : Prop := ∃ m, fo m n = true
theorem isF.leaf {n : Nd} (h : isF n) (h1 : n.f0 = 1) : n.f2 = [] ∧ 0 < n.f1.f1.size := by
 obtain ⟨m, h⟩ := h
 cases m with
 | zero => cases h
 | succ m =>
  rw [fo, if_pos h1, Bool.and_eq_true, decide_eq_true_eq] at h; exact ⟨List.eq_nil_of_length_eq_zero h.1, (of_decide_eq_true h.2).1⟩
theorem isF.node {n : Nd} (h : isF n) (h1 : ¬ n.f0 = 1) : n.f1.f1.size = 0 ∧ n.f1.f0 = 0 := by
 obtain ⟨m, h⟩ := h
 cases m with
 | zero => cases h
 | succ m =>
  rw [fo, if_neg h1, Bool.and_eq_true, Bool.and_eq_true, Bool.and_eq_true, Bool.and_eq_true, beq_iff_eq, beq_iff_eq, Lib.toList_data] at h; have := congrArg List.length h.1.1.2.2; rw [isize] at this; exact ⟨this, h.1.1.2.1⟩
theorem isF.kid {n x : Nd} (h : isF n) (hx : x ∈ n.f2) : isF x := by
 obtain ⟨m, h⟩ := h
 cases m with
 | zero => cases h
 | succ m =>
  rw [fo] at h
  split at h
  ·rw [Bool.and_eq_true, decide_eq_true_eq] at h; rw [List.eq_nil_of_length_eq_zero h.1] at hx
   cases hx
  ·rw [Bool.and_eq_true] at h; exact ⟨m, List.all_eq_true.1 h.2 x hx⟩
theorem isF.at {p : List Int} {n x : Nd} {o : Nat} (h : isF n) (hx : atp p n = some (x, o)) : isF x := by
 obtain ⟨m, h⟩ := h; exact atp_fo h hx
theorem isF.wd {n : Nd} (h : isF n) (h1 : ¬ n.f0 = 1) : P.wd n = wds n.f2 := by
 rw [wd_wds, (h.node h1).1, Nat.zero_add]
theorem isF.lv : ∀ {n : Nd}, isF n → (0 < lv n ↔ 0 < P.wd n) := by
 suffices H : ∀ n, isF n → (0 < P.lv n ↔ 0 < P.wd n) from fun {n} => H n
 refine Nd.ind ?_; intro n ih h; rw [lv_eq]; by_cases h1 : n.f0 = 1
 ·rw [if_pos h1, wd_wds]; have := (h.leaf h1).2
  omega
 ·rw [if_neg h1, h.wd h1]; unfold wds
  have : ∀ l : List Nd, (∀ x ∈ l, x ∈ n.f2) → (0 < (l.map P.lv).sum ↔ 0 < (l.map P.wd).sum) := by
   intro l
   induction l with
   | nil => intro _; exact Iff.rfl
   | cons y r ihl =>
    intro hl; have e1 := ih y (hl y List.mem_cons_self) (h.kid (hl y List.mem_cons_self)); have e2 := ihl (fun z hz => hl z (List.mem_cons_of_mem _ hz)); simp only [List.map_cons, List.sum_cons]
    omega
  exact this n.f2 (fun _ h => h)
def holds (F T a : Nat) (l : List Nd) (j : Nat) (x : Nd) : Prop := l[j]? = some x ∧ a + wds (l.take j) ≤ F ∧ T ≤ a + wds (l.take j) + wd x
end Go.Proofs.Ytnafnieocpkkhaa.P

namespace Go.Proofs.Ytnafnieocpkkhaa.P
open Go.RowKit Go.Proofs.YtnafnieocpkkhaaW.PrintWords Go.Proofs.YtnafnieocpkkhaaW.PrintLast Go.Proofs.YtnafnieocpkkhaaW.PrintMore
attribute [local go_sem] max2_int min2_int max_two min_two max_three min_three max_four min_four
set_option linter.unusedVariables false
set_option linter.unusedSimpArgs false

def tree_put.go : List Int → S26 → S26 → Option (S26)
 | [], _, by_ => some by_
 | i :: p, n, by_ => if n.f2.length < 1000000 then (if 0 ≤ i then (n.f2[i.toNat]?).bind fun x => (tree_put.go p x by_).bind fun y => some ⟨n.f0, n.f1, n.f2.set i.toNat y⟩ else none) else none
/-- A row whose elements' cells are told by S alone, once for all. -/
def tree_put.stat (S : S26 → List Value → Prop) : Kd (S26) where
 sz := 4
 E := []
 K := fun _ x cs => S x cs ∧ cs.length = 4 ∧ ∀ u ∈ cs, u.oneCell' = true
 M := fun _ _ _ x cs => S x cs ∧ cs.length = 4 ∧ ∀ u ∈ cs, u.oneCell' = true
 K_len := fun h => h.2.1
 K_one := fun h => h.2.2
 K_below := fun _ h => h
 K_of_M := fun h => h
 M_mono := fun _ h => h
 M_bound := fun h => h
 M_move := fun _ h => h
 M_lower := fun _ h => h
theorem tree_put.stat_imp {w : World} {base e : Nat} {ok : Nat → Prop} {v : Value} {l : List (S26)} {S S' : S26 → List Value → Prop} (hS : ∀ x cs, S x cs → S' x cs) (h : Kd.R (tree_put.stat S) e w base ok v l) : Kd.R (tree_put.stat S') e w base ok v l := by
 obtain ⟨h0, inner, ho, hl, hr⟩ := h; exact ⟨h0, inner, ho, hl, fun j p hj => ⟨hS _ _ (hr j p hj).1, (hr j p hj).2⟩⟩
theorem tree_put.stat_F {W : World} {base g n c : Nat} {okf : Nat → Prop} {l : List (S26)} {S : S26 → List Value → Prop} (h : Kd.R (tree_put.stat S) 26 W base (fun _ => True) (.slice (some ⟨g, 0, none⟩) n c) l) (hS : ∀ x cs, S x cs → Kd.FK k26 W okf x cs) (hg : okf g) :
  Kd.F k26 W okf (some ⟨g, 0, none⟩) l.length l := by
 intro W' hW
 have hlt : g < W.heap.size := by
  obtain ⟨inner, ho⟩ := Kd.R_own h; exact own_lt ho g (by simp [Value.ownBlock])
 have h2 : Kd.R (tree_put.stat S) 26 W' base (fun _ => True) (.slice (some ⟨g, 0, none⟩) n c) l := by
  obtain ⟨h0, inner, ho, hr⟩ := h
  exact ⟨h0, inner, own_move ho (fun k hk => by
   have : g = k := (by simpa [Value.ownBlock] using hk)
   subst this
   exact hW g hg hlt), hr⟩
 obtain ⟨A, c', e, hc, hC⟩ := Kd.R_reads h2; injection e with e1 _ _; subst e1; obtain ⟨q1, q2, q3⟩ := hC; refine ⟨q1, q2, fun hp => ?_⟩; obtain ⟨ad, e, hh⟩ := q3 hp; refine ⟨ad, e, fun j p hj => ?_⟩; obtain ⟨cs, h1, h3, h4⟩ := hh j p hj; exact ⟨cs, h1, (hS _ _ h3.1) W' hW, h4⟩
set_option maxHeartbeats 8000000 in
set_option maxRecDepth 100000 in
/-- slices.Clone of Nodes: the row is new, the Nodes' cells are as they were. -/
theorem tree_put.row (w : World) (S : S26 → List Value → Prop) (l : List (S26)) (A : Option Addr) (c : Nat) (hl : l.length < 1000000) (hC : ReadsRow (fun x cs => S x cs ∧ cs.length = 4 ∧ ∀ u ∈ cs, u.oneCell' = true) 4 w A l.length l) (hc : l.length ≤ c) :
  Calls Try.prog 103 #[.slice A l.length c] w fun e w' => ∃ v', e = .returned v' ∧ Kd.R (tree_put.stat S) 26 w' w.heap.size (fun _ => True) v' l ∧ Below w.heap.size w w' := by
 have hu := Try.underlying24
 have hq := fun w n => Lib.run_eql_slice_nil (P := Try.prog) w 24 26 A n c 0 0 hu
 have HC := Aside0.mk hC; clear hC
 cases A with
 | none =>
  have h0 : l = [] := by
   rcases Nat.eq_zero_or_pos l.length with h0 | h0
   ·exact List.length_eq_zero_iff.mp h0
   ·obtain ⟨ad, e, _⟩ := HC.out.2.2 h0
    cases e
  subst h0; go_enter Try.func103, Try.ntmps103; go_wp2; go_ret; exact ⟨_, rfl, Kd.R_nil _ _ _ _ _, Below.refl _ _⟩
 | some ad =>
  have hE := Aside0.mk (tree_Clone.lit (tree_put.stat S) (W := w) (base := w.heap.size) (e := 26) (Nat.le_refl _)); have hA := Aside0.mk (below_alloc (Below.refl w.heap.size w) (.cells #[] 26))
  have hRR : Aside0 (ReadsRow (fun x cs => S x cs ∧ cs.length = 4 ∧ ∀ u ∈ cs, u.oneCell' = true) 4 (w.alloc (.cells #[] 26)) (some ad) l.length l) := ⟨ReadsRow.imp_ HC.out hA.out (fun _ _ h => h)⟩
  clear HC; go_enter Try.func103, Try.ntmps103
  go_wp2_with (first | (at_builtin; refine Kd.R_append_rows (tree_put.stat S) (w0 := w) w.heap.size rfl (.tmp 5) (.tmp 6) 24 26 (.agg #[.int .i64 0, .int .i64 0, .string ⟨#[]⟩, .slice none 0 0]) 56 rfl Try.underlying24 tree_Clone.infoNode rfl (show 0 < 4 by decide) (by omega) (.slice (some ⟨w.heap.size, 0, none⟩) 0 0) [] l (some ad) l.length c (fun _ => True) (fun _ => False) rfl rfl hE.out hRR.out (fun x cs h => h) (fun _ hk => hk.elim) (fun _ _ => trivial) hA.out hA.out.size (show (([] : List (S26)).length + l.length) * 56 ≤ 140737488355328 by rw [List.length_nil]; omega) ?_; intro v1 w1 hr hb hg hat; have HR := Aside0.mk hr; have HB2 := Aside0.mk hb; clear hr hb hg hat))
  go_ret; exact ⟨_, rfl, by simpa using HR.out, HB2.out⟩
def tree_put.Holds (p : List Int) : Prop := ∀ (n b r : S26) (A Ap Ab : Option Addr) (c cp cb : Nat) (Pn Pb : Nat → Prop) (w : World), tree_put.go p n b = some r → n.f2.length ≤ c → Kd.F k26 w Pn A n.f2.length n.f2 → p.length ≤ cp → Kd.C (Kd.int .i64) w Ap p.length p → b.f2.length ≤ cb → Kd.F k26 w Pb Ab b.f2.length b.f2 →
 Calls Try.prog 77 #[.agg #[.int .i64 n.f0, .int .i64 n.f1.f0, .string n.f1.f1, .slice A n.f2.length c], .slice Ap p.length cp, .agg #[.int .i64 b.f0, .int .i64 b.f1.f0, .string b.f1.f1, .slice Ab b.f2.length cb]] w fun e w' => ∃ A' c', e = .returned (.agg #[.int .i64 r.f0, .int .i64 r.f1.f0, .string r.f1.f1, .slice A' r.f2.length c']) ∧ r.f2.length ≤ c' ∧ Kd.F k26 w' (fun k => (Pn k ∨ Pb k) ∨ w.heap.size ≤ k) A' r.f2.length r.f2 ∧ Below w.heap.size w w'
set_option maxHeartbeats 8000000 in
set_option maxRecDepth 100000 in
theorem tree_put.walk_ok : ∀ p, tree_put.Holds p := by
 have hu := Try.underlying26; intro p
 induction p with
 | nil =>
  intro n b r A Ap Ab c cp cb Pn Pb w h hc hC hcp hCp hcb hCb; rw [tree_put.go, Option.some.injEq] at h; subst h; have HC := Aside0.mk hCb; clear hC hCp hCb; go_enter Try.func77, Try.ntmps77; go_wp2_with fail; refine bodyPost_ret (results_cell_row rfl _ _ (w.heap.size + 1 + 1) 26 #[.int .i64 b.f0, .int .i64 b.f1.f0, .string b.f1.f1, .slice Ab b.f2.length cb] (0, 0) _ rfl (by simpa using blk_new ((w.alloc (.cells #[.int .i64 n.f0, .int .i64 n.f1.f0, .string n.f1.f1, .slice A n.f2.length c] 26)).alloc (.cells #[.int .i64 b.f0, .int .i64 b.f1.f0, .string b.f1.f1, .slice Ab b.f2.length cb] 26)) (.cells #[.int .i64 b.f0, .int .i64 b.f1.f0, .string b.f1.f1, .slice Ab b.f2.length cb] 26)) Try.underlying26 rfl (by kernel_rfl)) rfl ?_; refine ⟨Ab, cb, rfl, hcb, ?_, below_alloc (below_alloc (below_alloc (Below.refl _ _) _) _) _⟩; exact Kd.F_mono (Kd.F_below HC.out (below_alloc (below_alloc (below_alloc (Below.refl _ _) _) _) _)) (fun k hk => .inl (.inr hk))
 | cons i p ih =>
  intro n b r A Ap Ab c cp cb Pn Pb w h hc hC hcp hCp hcb hCb; rw [tree_put.go] at h; obtain ⟨hlen, h⟩ := Ut.ite_some h; obtain ⟨h0, h⟩ := Ut.ite_some h; obtain ⟨x, hx, h⟩ := Option.bind_eq_some_iff.mp h; obtain ⟨y, hy, h⟩ := Option.bind_eq_some_iff.mp h; injection h with h; subst h; obtain ⟨iN, rfl⟩ := Int.eq_ofNat_of_zero_le h0; rw [Int.toNat_natCast] at hx; obtain ⟨pad, e, hp0⟩ := Kd.at_int hCp 0 (by omega) (by rw [List.length_cons]; omega); subst e; have hp0 : w.cell? pad = some (.int .i64 (iN : Int)) := hp0; have hCp2 := Kd.C_drop (m := 1) (c := cp) hCp (by simp) (by omega)
  have hil : iN < n.f2.length := by
   rcases Nat.lt_or_ge iN n.f2.length with h | h
   ·exact h
   ·rw [List.getElem?_eq_none h] at hx; cases hx
  have HW3 := Aside0.mk (show Below w.heap.size w (((w.alloc (.cells #[.int .i64 n.f0, .int .i64 n.f1.f0, .string n.f1.f1, .slice A n.f2.length c] 26)).alloc (.cells #[.int .i64 b.f0, .int .i64 b.f1.f0, .string b.f1.f1, .slice Ab b.f2.length cb] 26)).alloc (.cells #[.int .i64 0, .int .i64 0, .string ⟨#[]⟩, .slice none 0 0] 26)) from below_alloc (below_alloc (below_alloc (Below.refl _ _) _) _) _); have HS3 := Aside0.mk (show (((w.alloc (.cells #[.int .i64 n.f0, .int .i64 n.f1.f0, .string n.f1.f1, .slice A n.f2.length c] 26)).alloc (.cells #[.int .i64 b.f0, .int .i64 b.f1.f0, .string b.f1.f1, .slice Ab b.f2.length cb] 26)).alloc (.cells #[.int .i64 0, .int .i64 0, .string ⟨#[]⟩, .slice none 0 0] 26)).heap.size = w.heap.size + 3 by simp); have H1 := Aside0.mk (show (((w.alloc (.cells #[.int .i64 n.f0, .int .i64 n.f1.f0, .string n.f1.f1, .slice A n.f2.length c] 26)).alloc (.cells #[.int .i64 b.f0, .int .i64 b.f1.f0, .string b.f1.f1, .slice Ab b.f2.length cb] 26)).alloc (.cells #[.int .i64 0, .int .i64 0, .string ⟨#[]⟩, .slice none 0 0] 26)).heap[w.heap.size]? = some (.cells #[.int .i64 n.f0, .int .i64 n.f1.f0, .string n.f1.f1, .slice A n.f2.length c] 26) from blk_alloc (blk_alloc (blk_new w _) _) _); have H2 := Aside0.mk (show (((w.alloc (.cells #[.int .i64 n.f0, .int .i64 n.f1.f0, .string n.f1.f1, .slice A n.f2.length c] 26)).alloc (.cells #[.int .i64 b.f0, .int .i64 b.f1.f0, .string b.f1.f1, .slice Ab b.f2.length cb] 26)).alloc (.cells #[.int .i64 0, .int .i64 0, .string ⟨#[]⟩, .slice none 0 0] 26)).heap[w.heap.size + 1]? = some (.cells #[.int .i64 b.f0, .int .i64 b.f1.f0, .string b.f1.f1, .slice Ab b.f2.length cb] 26) from blk_alloc (by simpa using blk_new (w.alloc (.cells #[.int .i64 n.f0, .int .i64 n.f1.f0, .string n.f1.f1, .slice A n.f2.length c] 26)) (.cells #[.int .i64 b.f0, .int .i64 b.f1.f0, .string b.f1.f1, .slice Ab b.f2.length cb] 26)) _); have H3 := Aside0.mk (show (((w.alloc (.cells #[.int .i64 n.f0, .int .i64 n.f1.f0, .string n.f1.f1, .slice A n.f2.length c] 26)).alloc (.cells #[.int .i64 b.f0, .int .i64 b.f1.f0, .string b.f1.f1, .slice Ab b.f2.length cb] 26)).alloc (.cells #[.int .i64 0, .int .i64 0, .string ⟨#[]⟩, .slice none 0 0] 26)).heap[w.heap.size + 1 + 1]? = some (.cells #[.int .i64 0, .int .i64 0, .string ⟨#[]⟩, .slice none 0 0] 26) by simpa using blk_new ((w.alloc (.cells #[.int .i64 n.f0, .int .i64 n.f1.f0, .string n.f1.f1, .slice A n.f2.length c] 26)).alloc (.cells #[.int .i64 b.f0, .int .i64 b.f1.f0, .string b.f1.f1, .slice Ab b.f2.length cb] 26)) (.cells #[.int .i64 0, .int .i64 0, .string ⟨#[]⟩, .slice none 0 0] 26)); have ROW := Aside0.mk (tree_put.row (((w.alloc (.cells #[.int .i64 n.f0, .int .i64 n.f1.f0, .string n.f1.f1, .slice A n.f2.length c] 26)).alloc (.cells #[.int .i64 b.f0, .int .i64 b.f1.f0, .string b.f1.f1, .slice Ab b.f2.length cb] 26)).alloc (.cells #[.int .i64 0, .int .i64 0, .string ⟨#[]⟩, .slice none 0 0] 26)) (fun (z : S26) cs => Kd.FK k26 w (fun k => Pn k ∧ k < w.heap.size) z cs) n.f2 A c hlen (ReadsRow.imp_ (Kd.F_rows (Kd.F_bound hC)) HW3.out (fun z cs h => ⟨h, (k26).K_len (Kd.FK_now h), (k26).K_one (Kd.FK_now h)⟩)) hc); have IH := Aside0.mk ih; have HY := Aside0.mk hy; have HX := Aside0.mk hx; have HC := Aside0.mk hC; have HCP := Aside0.mk hCp2; have HP0 := Aside0.mk hp0; have HCB := Aside0.mk hCb
  have hne : ((p.length : Int) + 1 == 0) = false := (by simp; omega)
  have hi1 : (iN : Int) < (n.f2.length : Int) := (by omega)
  clear ih hx hy hC hCp hCp2 hp0 hCb; go_enter Try.func77, Try.ntmps77; go_wp2_with fail; refine ROW.out.mono ?_; rintro e w1 ⟨v1, rfl, hR1, hb1⟩; obtain ⟨g, cap, hv, hbg, hgl, cg, hcg⟩ := Kd.R_form hR1 (by omega); have HCG := Aside0.mk hcg; subst hv; have HR1 := Aside0.mk hR1; have HB1 := Aside0.mk hb1; have k1 := blk_below H1.out hb1; have k2 := blk_below H2.out hb1; have k3 := blk_below H3.out hb1; have HK := Aside0.mk (And.intro k1 (And.intro k2 k3)); have s0 : w1.cell? ⟨w.heap.size, 3, none⟩ = some (.slice A n.f2.length c) := Lib.cell_of_heap k1 3; have s1 := Lib.frozen_of_heap k1 3; clear hR1 hb1 ROW k1 k2 k3 hcg; go_wp2_with fail; obtain ⟨xc, hxl, hM, hcc⟩ := Kd.R_get HR1.out n (iN : Int) (by omega) (by omega); rw [Int.toNat_natCast, List.getD_eq_getElem?_getD, HX.out] at hM; rw [Int.toNat_natCast] at hcc; have hK : Kd.FK k26 w (fun k => Pn k ∧ k < w.heap.size) x xc := hM.1; obtain ⟨A3, c3, rfl, hl3, hC3⟩ := k26_openF hK
  have hgs : w.heap.size + 3 ≤ g := (by have := HS3.out; omega)
  have hng : g ≠ w.heap.size := (by omega)
  have had : ∀ j, (⟨g, 0, none⟩ : Addr).add (iN * 4 + j) = ⟨g, iN * 4 + j, none⟩ := fun j => by unfold Addr.add; simp; try omega
  have x0 : w1.cell? ⟨g, iN * 4 + 0, none⟩ = some (.int .i64 x.f0) := (by have hq := hcc 0 _ rfl; rw [show (tree_put.stat (fun (z : S26) cs => Kd.FK k26 w (fun k => Pn k ∧ k < w.heap.size) z cs)).sz = 4 from rfl, had] at hq; exact hq)
  have x1 : w1.cell? ⟨g, iN * 4 + 1, none⟩ = some (.int .i64 x.f1.f0) := (by have hq := hcc 1 _ rfl; rw [show (tree_put.stat (fun (z : S26) cs => Kd.FK k26 w (fun k => Pn k ∧ k < w.heap.size) z cs)).sz = 4 from rfl, had] at hq; exact hq)
  have x2 : w1.cell? ⟨g, iN * 4 + 2, none⟩ = some (.string x.f1.f1) := (by have hq := hcc 2 _ rfl; rw [show (tree_put.stat (fun (z : S26) cs => Kd.FK k26 w (fun k => Pn k ∧ k < w.heap.size) z cs)).sz = 4 from rfl, had] at hq; exact hq)
  have x3 : w1.cell? ⟨g, iN * 4 + 3, none⟩ = some (.slice A3 x.f2.length c3) := (by have hq := hcc 3 _ rfl; rw [show (tree_put.stat (fun (z : S26) cs => Kd.FK k26 w (fun k => Pn k ∧ k < w.heap.size) z cs)).sz = 4 from rfl, had] at hq; exact hq)
  have HW1 := Aside0.mk (HW3.out.trans (HB1.out.mono HW3.out.size)); obtain ⟨k1, k2, k3⟩ := HK.out; have hplt : pad.block < w.heap.size := World.block_lt_of_cell? w _ HP0.out; have p0 := (HW1.out.cell hplt).trans HP0.out
  have far : ∀ (a : Addr) (u : Value), a.block ≠ w.heap.size → w1.cell? a = some u → (w1.setCell ⟨w.heap.size, 3, none⟩ (.slice (some ⟨g, 0, none⟩) n.f2.length cap)).cell? a = some u := fun a u ha h => (World.cell?_setCell_far w1 _ a _ (fun e => ha e.symm)).trans h
  have hS4 : Aside0 ((fun w' : World => w'.cell? ⟨w.heap.size, 3, none⟩ = some (.slice (some ⟨g, 0, none⟩) n.f2.length cap) ∧ w'.cell? pad = some (.int .i64 (iN : Int)) ∧ w'.cell? ⟨w.heap.size + 1, 0, none⟩ = some (.int .i64 b.f0) ∧ w'.cell? ⟨w.heap.size + 1, 1, none⟩ = some (.int .i64 b.f1.f0) ∧ w'.cell? ⟨w.heap.size + 1, 2, none⟩ = some (.string b.f1.f1) ∧ w'.cell? ⟨w.heap.size + 1, 3, none⟩ = some (.slice Ab b.f2.length cb) ∧ w'.cell? ⟨g, iN * 4, none⟩ = some (.int .i64 x.f0) ∧ w'.cell? ⟨g, iN * 4 + 1, none⟩ = some (.int .i64 x.f1.f0) ∧ w'.cell? ⟨g, iN * 4 + 2, none⟩ = some (.string x.f1.f1) ∧ w'.cell? ⟨g, iN * 4 + 3, none⟩ = some (.slice A3 x.f2.length c3)) (w1.setCell ⟨w.heap.size, 3, none⟩ (.slice (some ⟨g, 0, none⟩) n.f2.length cap))) := ⟨by
   refine ⟨by rw [Lib.cell_of_heap (blk_put (cs' := #[.int .i64 n.f0, .int .i64 n.f1.f0, .string n.f1.f1, .slice (some ⟨g, 0, none⟩) n.f2.length cap]) k1 3 (.slice (some ⟨g, 0, none⟩) n.f2.length cap) rfl) 3]; rfl, far _ _ (by omega) p0, far _ _ (by simp) (Lib.cell_of_heap k2 0), far _ _ (by simp) (Lib.cell_of_heap k2 1), far _ _ (by simp) (Lib.cell_of_heap k2 2), far _ _ (by simp) (Lib.cell_of_heap k2 3), far _ _ hng x0, far _ _ hng x1, far _ _ hng x2, far _ _ hng x3⟩⟩
  have HR4 : Aside0 (Kd.R (tree_put.stat (fun (z : S26) cs => Kd.FK k26 w (fun k => Pn k ∧ k < w.heap.size) z cs)) 26 (w1.setCell ⟨w.heap.size, 3, none⟩ (.slice (some ⟨g, 0, none⟩) n.f2.length cap)) (w.heap.size + 3) (fun _ => True) (.slice (some ⟨g, 0, none⟩) n.f2.length cap) n.f2) := ⟨Kd.R_mono (Kd.R_far (p := ⟨w.heap.size, 3, none⟩) (Kd.R_mono (Kd.R_bound (Kd.R_lower HR1.out (show w.heap.size + 3 ≤ _ by rw [HS3.out]; exact Nat.le_refl _))) (fun k hk => hk.2.1)) (fun k (hk : w.heap.size + 3 ≤ k) (e : k = w.heap.size) => by omega) _) (fun _ _ => trivial)⟩
  have HW4 : Aside0 (Below w.heap.size w (w1.setCell ⟨w.heap.size, 3, none⟩ (.slice (some ⟨g, 0, none⟩) n.f2.length cap))) := ⟨below_set (HW3.out.trans (HB1.out.mono HW3.out.size)) (Nat.le_refl _)⟩
  have HK4 : Aside0 ((w1.setCell ⟨w.heap.size, 3, none⟩ (.slice (some ⟨g, 0, none⟩) n.f2.length cap)).heap[w.heap.size]? = some (.cells #[.int .i64 n.f0, .int .i64 n.f1.f0, .string n.f1.f1, .slice (some ⟨g, 0, none⟩) n.f2.length cap] 26 (0, 0)) ∧ (w1.setCell ⟨w.heap.size, 3, none⟩ (.slice (some ⟨g, 0, none⟩) n.f2.length cap)).heap[w.heap.size + 1 + 1]? = some (.cells #[.int .i64 0, .int .i64 0, .string ⟨#[]⟩, .slice none 0 0] 26 (0, 0))) := ⟨blk_put k1 3 _ rfl, (Below.heap_setCell w1 ⟨w.heap.size, 3, none⟩ _ (w.heap.size + 1 + 1) (by simp; omega)).trans k3⟩
  have HG4 : Aside0 ((w1.setCell ⟨w.heap.size, 3, none⟩ (.slice (some ⟨g, 0, none⟩) n.f2.length cap)).heap[g]? = some (.cells cg 26 (0, 0))) := ⟨(Below.heap_setCell w1 ⟨w.heap.size, 3, none⟩ _ g (by simpa using hng)).trans HCG.out⟩
  have HZ4 : Aside0 (w.heap.size + 3 ≤ (w1.setCell ⟨w.heap.size, 3, none⟩ (.slice (some ⟨g, 0, none⟩) n.f2.length cap)).heap.size) := ⟨by have h1 := HB1.out.size; have h2 := HS3.out; rw [show (w1.setCell ⟨w.heap.size, 3, none⟩ (.slice (some ⟨g, 0, none⟩) n.f2.length cap)).heap.size = w1.heap.size by simp [World.setCell]]; omega⟩
  have HL4 : Aside0 (g < (w1.setCell ⟨w.heap.size, 3, none⟩ (.slice (some ⟨g, 0, none⟩) n.f2.length cap)).heap.size) := ⟨by simpa [World.setCell] using hgl⟩
  clear x0 x1 x2 x3 s0 s1 p0 k1 k2 k3 far hM hcc hK had HR1 HB1 HW1 HK H1 H2 H3 HX HCG; generalize w1.setCell ⟨w.heap.size, 3, none⟩ (.slice (some ⟨g, 0, none⟩) n.f2.length cap) = W4 at hS4 HR4 HW4 HK4 HG4 HL4 HZ4 ⊢
  have hcases : (cp = 1) = True ∨ (cp = 1) = False := (by by_cases h : cp = 1 <;> simp [h])
  rcases hcases with hc1 | hc1
  all_goals
   have hCP2 := HCP.out; simp only [hc1, if_true, if_false] at hCP2; have HCP2 := Aside0.mk hCP2; clear hCP2 HCP; have hw4 : Below w.heap.size w W4.drew := below_drew1 HW4.out; have HCall := Aside0.mk (IH.out x b y A3 _ Ab c3 (cp - 1) cb (fun k => Pn k ∧ k < w.heap.size) (fun k => Pb k ∧ k < w.heap.size) W4.drew HY.out hl3 (Kd.F_below hC3 hw4) (by simp at hcp; omega) (Kd.C_below HCP2.out hw4) hcb (Kd.F_below (Kd.F_bound HCB.out) hw4)); obtain ⟨q0, q1, q2, q3, q4, q5, x0, x1, x2, x3⟩ := hS4.out
   have hSd : (fun w' : World => w'.cell? ⟨w.heap.size, 3, none⟩ = some (.slice (some ⟨g, 0, none⟩) n.f2.length cap) ∧ w'.cell? pad = some (.int .i64 (iN : Int)) ∧ w'.cell? ⟨w.heap.size + 1, 0, none⟩ = some (.int .i64 b.f0) ∧ w'.cell? ⟨w.heap.size + 1, 1, none⟩ = some (.int .i64 b.f1.f0) ∧ w'.cell? ⟨w.heap.size + 1, 2, none⟩ = some (.string b.f1.f1) ∧ w'.cell? ⟨w.heap.size + 1, 3, none⟩ = some (.slice Ab b.f2.length cb)) W4.drew := ⟨q0, q1, q2, q3, q4, q5⟩
   have x0 : W4.drew.cell? ⟨g, iN * 4, none⟩ = some (.int .i64 x.f0) := x0; have x1 : W4.drew.cell? ⟨g, iN * 4 + 1, none⟩ = some (.int .i64 x.f1.f0) := x1; have x2 : W4.drew.cell? ⟨g, iN * 4 + 2, none⟩ = some (.string x.f1.f1) := x2; have x3 : W4.drew.cell? ⟨g, iN * 4 + 3, none⟩ = some (.slice A3 x.f2.length c3) := x3; have HXX := Aside0.mk (And.intro x0 (And.intro x1 (And.intro x2 x3)))
   have f4 : Aside0 (∀ (W : World) (a : Addr) (u v0 v1 v2 v3 : Value), a.block ≠ g → W.cell? a = some u → ((((W.setCell ⟨g, iN * 4, none⟩ v0).setCell ⟨g, iN * 4 + 1, none⟩ v1).setCell ⟨g, iN * 4 + 2, none⟩ v2).setCell ⟨g, iN * 4 + 3, none⟩ v3).cell? a = some u) := ⟨fun W a u v0 v1 v2 v3 ha h => (World.cell?_setCell_far _ _ a _ (fun e => ha e.symm)).trans ((World.cell?_setCell_far _ _ a _ (fun e => ha e.symm)).trans ((World.cell?_setCell_far _ _ a _ (fun e => ha e.symm)).trans ((World.cell?_setCell_far _ _ a _ (fun e => ha e.symm)).trans h)))⟩
   have hd0 : w.heap.size ≠ g := (by omega)
   have hd1 : w.heap.size + 1 ≠ g := (by omega)
   have hd2 : pad.block ≠ g := (by omega)
   dsimp only at hSd
   have hs1 : (1 : Int) ≤ (p.length : Int) + 1 := (by omega)
   have hs2 : (0 : Int) < (p.length : Int) + 1 := (by omega)
   have hs3 : (0 : Int) ≤ (iN : Int) := (by omega)
   clear hC3 hw4 q0 q1 q2 q3 q4 q5 hS4 hplt; refine start_ (n := 18) (S := (fun w' : World => w'.cell? ⟨w.heap.size, 3, none⟩ = some (.slice (some ⟨g, 0, none⟩) n.f2.length cap) ∧ w'.cell? pad = some (.int .i64 (iN : Int)) ∧ w'.cell? ⟨w.heap.size + 1, 0, none⟩ = some (.int .i64 b.f0) ∧ w'.cell? ⟨w.heap.size + 1, 1, none⟩ = some (.int .i64 b.f1.f0) ∧ w'.cell? ⟨w.heap.size + 1, 2, none⟩ = some (.string b.f1.f1) ∧ w'.cell? ⟨w.heap.size + 1, 3, none⟩ = some (.slice Ab b.f2.length cb))) (ds := [17]) #[false, false, false, false, false, false, false, false, false, false, false, false, false, false, false, false, false, false] (by kernel_rfl) rfl rfl hSd (fun hHeld => ?_); refine take_ (i := 0) (N := some 15) (v := ?_) (a' := ?_) #[true, false, false, false, false, false, false, false, false, false, false, false, false, false, false, false, false, false] rfl rfl (by kernel_rfl) (fun _ _ _ h => h) (Or.inl ⟨by rfl, ?_⟩) hHeld ?_ ?_; rotate_left
   ·rintro w' ⟨s0, s1, s2, s3, s4, s5⟩; go_simp; with_reducible rfl
   rotate_left
   ·simp only [Act.put, List.setIfInBounds_toArray, List.set_cons_zero, List.set_cons_succ, i64_w, i32_w]; rfl
   refine take_ (i := 1) (N := some 16) (v := ?_) (a' := ?_) #[true, true, false, false, false, false, false, false, false, false, false, false, false, false, false, false, false, false] rfl rfl (by kernel_rfl) (fun _ _ _ h => h) (Or.inl ⟨by rfl, ?_⟩) hHeld ?_ ?_; rotate_left
   ·rintro w' ⟨s0, s1, s2, s3, s4, s5⟩; go_simp; with_reducible rfl
   rotate_left
   ·simp only [Act.put, List.setIfInBounds_toArray, List.set_cons_zero, List.set_cons_succ, i64_w, i32_w]; rfl
   refine take_ (i := 2) (N := some 17) (v := ?_) (a' := ?_) #[true, true, true, false, false, false, false, false, false, false, false, false, false, false, false, false, false, false] rfl rfl (by kernel_rfl) (fun _ _ _ h => h) (Or.inl ⟨by rfl, ?_⟩) hHeld ?_ ?_; rotate_left
   ·rintro w' ⟨s0, s1, s2, s3, s4, s5⟩; go_simp; with_reducible rfl
   rotate_left
   ·simp only [Act.put, List.setIfInBounds_toArray, List.set_cons_zero, List.set_cons_succ, i64_w, i32_w]; rfl
   refine take_ (i := 3) (N := some 18) (v := ?_) (a' := ?_) #[true, true, true, true, false, false, false, false, false, false, false, false, false, false, false, false, false, false] rfl rfl (by kernel_rfl) (fun _ _ _ h => h) (Or.inl ⟨by rfl, ?_⟩) hHeld ?_ ?_; rotate_left
   ·rintro w' ⟨s0, s1, s2, s3, s4, s5⟩; go_simp; with_reducible rfl
   rotate_left
   ·simp only [Act.put, List.setIfInBounds_toArray, List.set_cons_zero, List.set_cons_succ, i64_w, i32_w]; rfl
   refine take_ (i := 4) (N := some 19) (v := ?_) (a' := ?_) #[true, true, true, true, true, false, false, false, false, false, false, false, false, false, false, false, false, false] rfl rfl (by kernel_rfl) (fun _ _ _ h => h) (Or.inl ⟨by rfl, ?_⟩) hHeld ?_ ?_; rotate_left
   ·rintro w' ⟨s0, s1, s2, s3, s4, s5⟩; go_simp; with_reducible rfl
   rotate_left
   ·simp only [Act.put, List.setIfInBounds_toArray, List.set_cons_zero, List.set_cons_succ, i64_w, i32_w]; rfl
   refine take_ (i := 5) (N := some 20) (v := ?_) (a' := ?_) #[true, true, true, true, true, true, false, false, false, false, false, false, false, false, false, false, false, false] rfl rfl (by kernel_rfl) (fun _ _ _ h => h) (Or.inl ⟨by rfl, ?_⟩) hHeld ?_ ?_; rotate_left
   ·rintro w' ⟨s0, s1, s2, s3, s4, s5⟩; go_simp; with_reducible rfl
   rotate_left
   ·simp only [Act.put, List.setIfInBounds_toArray, List.set_cons_zero, List.set_cons_succ, i64_w, i32_w]; rfl
   refine take_ (i := 6) (N := some 21) (v := ?_) (a' := ?_) #[true, true, true, true, true, true, true, false, false, false, false, false, false, false, false, false, false, false] rfl rfl (by kernel_rfl) (fun _ _ _ h => h) (Or.inl ⟨by rfl, ?_⟩) hHeld ?_ ?_; rotate_left
   ·rintro w' ⟨s0, s1, s2, s3, s4, s5⟩; go_simp; with_reducible rfl
   rotate_left
   ·simp only [Act.put, List.setIfInBounds_toArray, List.set_cons_zero, List.set_cons_succ, i64_w, i32_w]; rfl
   refine take_ (i := 7) (N := some 22) (v := ?_) (a' := ?_) #[true, true, true, true, true, true, true, true, false, false, false, false, false, false, false, false, false, false] rfl rfl (by kernel_rfl) (fun _ _ _ h => h) (Or.inl ⟨by rfl, ?_⟩) hHeld ?_ ?_; rotate_left
   ·rintro w' ⟨s0, s1, s2, s3, s4, s5⟩; go_simp; with_reducible rfl
   rotate_left
   ·simp only [Act.put, List.setIfInBounds_toArray, List.set_cons_zero, List.set_cons_succ, i64_w, i32_w]; rfl
   refine take_ (i := 8) (N := some 23) (v := ?_) (a' := ?_) #[true, true, true, true, true, true, true, true, true, false, false, false, false, false, false, false, false, false] rfl rfl (by kernel_rfl) (fun _ _ _ h => h) (Or.inl ⟨by rfl, ?_⟩) hHeld ?_ ?_; rotate_left
   ·rintro w' ⟨s0, s1, s2, s3, s4, s5⟩; go_simp; with_reducible rfl
   rotate_left
   ·simp only [Act.put, List.setIfInBounds_toArray, List.set_cons_zero, List.set_cons_succ, i64_w, i32_w]; rfl
   refine take_ (i := 9) (N := some 24) (v := ?_) (a' := ?_) #[true, true, true, true, true, true, true, true, true, true, false, false, false, false, false, false, false, false] rfl rfl (by kernel_rfl) (fun _ _ _ h => h) (Or.inl ⟨by rfl, ?_⟩) hHeld ?_ ?_; rotate_left
   ·rintro w' ⟨s0, s1, s2, s3, s4, s5⟩; go_simp; with_reducible rfl
   rotate_left
   ·simp only [Act.put, List.setIfInBounds_toArray, List.set_cons_zero, List.set_cons_succ, i64_w, i32_w]; rfl
   refine take_ (i := 10) (N := some 25) (v := ?_) (a' := ?_) #[true, true, true, true, true, true, true, true, true, true, true, false, false, false, false, false, false, false] rfl rfl (by kernel_rfl) (fun _ _ _ h => h) (Or.inl ⟨by rfl, ?_⟩) hHeld ?_ ?_; rotate_left
   ·rintro w' ⟨s0, s1, s2, s3, s4, s5⟩; go_simp; with_reducible rfl
   rotate_left
   ·simp only [Act.put, List.setIfInBounds_toArray, List.set_cons_zero, List.set_cons_succ, i64_w, i32_w]; rfl
   refine take_ (i := 12) (N := some 27) (v := ?_) (a' := ?_) #[true, true, true, true, true, true, true, true, true, true, true, false, true, false, false, false, false, false] rfl rfl (by kernel_rfl) (fun _ _ _ h => h) (Or.inl ⟨by rfl, ?_⟩) hHeld ?_ ?_; rotate_left
   ·rintro w' ⟨s0, s1, s2, s3, s4, s5⟩; go_simp; with_reducible rfl
   rotate_left
   ·simp only [Act.put, List.setIfInBounds_toArray, List.set_cons_zero, List.set_cons_succ, i64_w, i32_w]; rfl
   refine take_ (i := 13) (N := some 28) (v := ?_) (a' := ?_) #[true, true, true, true, true, true, true, true, true, true, true, false, true, true, false, false, false, false] rfl rfl (by kernel_rfl) (fun _ _ _ h => h) (Or.inl ⟨by rfl, ?_⟩) hHeld ?_ ?_; rotate_left
   ·rintro w' ⟨s0, s1, s2, s3, s4, s5⟩; go_simp; with_reducible rfl
   rotate_left
   ·simp only [Act.put, List.setIfInBounds_toArray, List.set_cons_zero, List.set_cons_succ, i64_w, i32_w]; rfl
   refine take_ (i := 14) (N := some 29) (v := ?_) (a' := ?_) #[true, true, true, true, true, true, true, true, true, true, true, false, true, true, true, false, false, false] rfl rfl (by kernel_rfl) (fun _ _ _ h => h) (Or.inl ⟨by rfl, ?_⟩) hHeld ?_ ?_; rotate_left
   ·rintro w' ⟨s0, s1, s2, s3, s4, s5⟩; go_simp; with_reducible rfl
   rotate_left
   ·simp only [Act.put, List.setIfInBounds_toArray, List.set_cons_zero, List.set_cons_succ, i64_w, i32_w]; rfl
   refine one_ (i := 11) (N := some 26) #[true, true, true, true, true, true, true, true, true, true, true, true, true, true, true, false, false, false] rfl rfl (by kernel_rfl) (by decide) (fun K hK => ?_); go_simp; refine hK.out _ _ hHeld (fun hHeld => ?_); clear hK K; refine one_ (i := 15) (N := some 30) #[true, true, true, true, true, true, true, true, true, true, true, true, true, true, true, true, false, false] rfl rfl (by kernel_rfl) (by decide) (fun K hK => ?_); go_simp; go_at_call 77; refine HCall.out.mono ?_; rintro e w5 ⟨A5, c5, rfl, hc5, hF5, hb5⟩
   have hS5 : Aside0 ((fun w' : World => w'.cell? ⟨w.heap.size, 3, none⟩ = some (.slice (some ⟨g, 0, none⟩) n.f2.length cap) ∧ w'.cell? pad = some (.int .i64 (iN : Int)) ∧ w'.cell? ⟨w.heap.size + 1, 0, none⟩ = some (.int .i64 b.f0) ∧ w'.cell? ⟨w.heap.size + 1, 1, none⟩ = some (.int .i64 b.f1.f0) ∧ w'.cell? ⟨w.heap.size + 1, 2, none⟩ = some (.string b.f1.f1) ∧ w'.cell? ⟨w.heap.size + 1, 3, none⟩ = some (.slice Ab b.f2.length cb)) w5) := ⟨by (obtain ⟨q0, q1, q2, q3, q4, q5⟩ := hSd; exact ⟨pw_cell_below hb5 q0, pw_cell_below hb5 q1, pw_cell_below hb5 q2, pw_cell_below hb5 q3, pw_cell_below hb5 q4, pw_cell_below hb5 q5⟩)⟩
   have y0 := pw_cell_below hb5 HXX.out.1; have y1 := pw_cell_below hb5 HXX.out.2.1; have y2 := pw_cell_below hb5 HXX.out.2.2.1; have y3 := pw_cell_below hb5 HXX.out.2.2.2; have g5 : w5.heap[g]? = some (.cells cg 26 (0, 0)) := blk_below (blk_drew HG4.out) hb5; have r0 := Lib.frozen_of_heap g5 (iN * 4); have r1 := Lib.frozen_of_heap g5 (iN * 4 + 1); have r2 := Lib.frozen_of_heap g5 (iN * 4 + 2); have r3 := Lib.frozen_of_heap g5 (iN * 4 + 3); have HF5 := Aside0.mk hF5; have HB5 := Aside0.mk hb5; have HG5 := Aside0.mk g5; clear hF5 hb5 g5; refine hK.out _ _ hS5.out (fun hHeld => ?_); clear hK K; refine take_ (i := 16) (N := some 31) (v := ?_) (a' := ?_) #[true, true, true, true, true, true, true, true, true, true, true, true, true, true, true, true, true, false] rfl rfl (by kernel_rfl) (fun _ _ _ h => h) (Or.inl ⟨by rfl, ?_⟩) hHeld ?_ ?_; rotate_left
   ·rintro w' ⟨s0, s1, s2, s3, s4, s5⟩; go_simp; with_reducible rfl
   rotate_left
   ·simp only [Act.put, List.setIfInBounds_toArray, List.set_cons_zero, List.set_cons_succ, i64_w, i32_w]; rfl
   refine last_ (i := 17) (N := none) #[true, true, true, true, true, true, true, true, true, true, true, true, true, true, true, true, true, true] rfl rfl (by kernel_rfl) (by decide) (fun K hK => ?_); go_simp; refine hK.out _ _ ?_; clear hK K; refine done_ (by kernel_rfl) ?_; have hcap : n.f2.length ≤ cap := (Kd.R_reads' HR4.out).2.1; have hw5 : Below w.heap.size w w5 := HW4.out.trans ((below_drew1 (Below.refl _ _)).trans (HB5.out.mono (Nat.le_refl _)) |>.mono HW4.out.size); have hRs : Kd.R (tree_put.stat (fun (z : S26) cs => Kd.FK k26 w5 (fun k => k ≠ g ∧ (((Pn k ∨ Pb k) ∧ k < w.heap.size) ∨ w.heap.size + 3 ≤ k)) z cs)) 26 w5 (w.heap.size + 3) (fun _ => True) (.slice (some ⟨g, 0, none⟩) n.f2.length cap) n.f2 := Kd.R_below (tree_put.stat_imp (fun z cs hz => Kd.FK_mono (Kd.FK_below hz hw5) (fun k hk => ⟨by have := hk.2; omega, .inl ⟨.inl hk.1, hk.2⟩⟩)) (Kd.R_drew HR4.out)) HB5.out
   have hy5 : (tree_put.stat (fun (z : S26) cs => Kd.FK k26 w5 (fun k => k ≠ g ∧ (((Pn k ∨ Pb k) ∧ k < w.heap.size) ∨ w.heap.size + 3 ≤ k)) z cs)).M w5 (w.heap.size + 3) (fun k => k ≠ g) y [.int .i64 y.f0, .int .i64 y.f1.f0, .string y.f1.f1, .slice A5 y.f2.length c5] := ⟨k26_mkF w5 _ y hc5 (Kd.F_mono HF5.out (fun k hk => by
    have h1 := HL4.out; have h2 := HZ4.out
    rcases hk with hk | hk
    ·rcases hk with hk | hk
     ·exact ⟨by have := hk.2; omega, .inl ⟨.inl hk.1, hk.2⟩⟩
     ·exact ⟨by have := hk.2; omega, .inl ⟨.inr hk.1, hk.2⟩⟩
    ·have hk : W4.heap.size ≤ k := hk
     exact ⟨by omega, .inr (by omega)⟩)), rfl, tree_Clone.one4⟩
   obtain ⟨hR6, hg6⟩ := Kd.R_seg hRs (iN : Int) (by omega) (by omega) (c := [.int .i64 x.f0, .int .i64 x.f1.f0, .string x.f1.f1, .slice A3 x.f2.length c3]) (seg := [.int .i64 y.f0, .int .i64 y.f1.f0, .string y.f1.f1, .slice A5 y.f2.length c5]) (j := 0) rfl (fun j u hj => by
    match j, hj with
    | 0, hj => simp only [List.getElem?_cons_zero, Option.some.injEq] at hj; subst hj; exact y0
    | 1, hj => simp only [List.getElem?_cons_succ, List.getElem?_cons_zero, Option.some.injEq] at hj; subst hj; exact y1
    | 2, hj => simp only [List.getElem?_cons_succ, List.getElem?_cons_zero, Option.some.injEq] at hj; subst hj; exact y2
    | 3, hj => simp only [List.getElem?_cons_succ, List.getElem?_cons_zero, Option.some.injEq] at hj; subst hj; exact y3) (show 0 + 4 ≤ 4 from Nat.le_refl 4) (x' := y) hy5 (fun k hk => ⟨trivial, hk⟩)
   have e6 : w5.setCells g ((iN : Int).toNat * (tree_put.stat (fun (z : S26) cs => Kd.FK k26 w5 (fun k => k ≠ g ∧ (((Pn k ∨ Pb k) ∧ k < w.heap.size) ∨ w.heap.size + 3 ≤ k)) z cs)).sz + 0) [.int .i64 y.f0, .int .i64 y.f1.f0, .string y.f1.f1, .slice A5 y.f2.length c5] = ((((w5.setCell ⟨g, iN * 4, none⟩ (.int .i64 y.f0)).setCell ⟨g, iN * 4 + 1, none⟩ (.int .i64 y.f1.f0)).setCell ⟨g, iN * 4 + 2, none⟩ (.string y.f1.f1)).setCell ⟨g, iN * 4 + 3, none⟩ (.slice A5 y.f2.length c5)) := rfl; rw [e6] at hR6 hg6
   have f6 : ∀ k, k ≠ g → ((((w5.setCell ⟨g, iN * 4, none⟩ (.int .i64 y.f0)).setCell ⟨g, iN * 4 + 1, none⟩ (.int .i64 y.f1.f0)).setCell ⟨g, iN * 4 + 2, none⟩ (.string y.f1.f1)).setCell ⟨g, iN * 4 + 3, none⟩ (.slice A5 y.f2.length c5)).heap[k]? = w5.heap[k]? := fun k hk => (Below.heap_setCell _ _ _ k hk).trans ((Below.heap_setCell _ _ _ k hk).trans ((Below.heap_setCell _ _ _ k hk).trans (Below.heap_setCell _ _ _ k hk)))
   have hB6 : Below w.heap.size w ((((w5.setCell ⟨g, iN * 4, none⟩ (.int .i64 y.f0)).setCell ⟨g, iN * 4 + 1, none⟩ (.int .i64 y.f1.f0)).setCell ⟨g, iN * 4 + 2, none⟩ (.string y.f1.f1)).setCell ⟨g, iN * 4 + 3, none⟩ (.slice A5 y.f2.length c5)) := below_set (below_set (below_set (below_set hw5 (by omega)) (by omega)) (by omega)) (by omega); have k1 := (f6 w.heap.size hd0).trans (blk_below (blk_drew HK4.out.1) HB5.out); have k3 := (f6 (w.heap.size + 1 + 1) (by omega)).trans (blk_below (blk_drew HK4.out.2) HB5.out); have hF6 := tree_put.stat_F (okf := (fun k => ((Pn k ∨ Pb k) ∧ k < w.heap.size) ∨ w.heap.size + 3 ≤ k)) hR6 (fun z cs hz => Kd.FK_mono (Kd.FK_step hz (fun k hk _ => f6 k hk.1)) (fun k hk => hk.2)) (.inr (by omega)); rw [Int.toNat_natCast, List.length_set] at hF6; have HF6 := Aside0.mk hF6; have HB6 := Aside0.mk hB6; have HK1 := Aside0.mk k1; have HK3 := Aside0.mk k3; clear hR6 hg6 f6 hB6 hy5 hRs hF6 e6 hw5 f4 HF5 HB5 HG5 hS5 HR4 HK4 HG4 HL4 hSd HXX y0 y1 y2 y3 r0 r1 r2 r3; generalize ((((w5.setCell ⟨g, iN * 4, none⟩ (.int .i64 y.f0)).setCell ⟨g, iN * 4 + 1, none⟩ (.int .i64 y.f1.f0)).setCell ⟨g, iN * 4 + 2, none⟩ (.string y.f1.f1)).setCell ⟨g, iN * 4 + 3, none⟩ (.slice A5 y.f2.length c5)) = W6 at k1 k3 HF6 HB6 HK1 HK3 ⊢; have a0 : W6.cell? ⟨w.heap.size, 0, none⟩ = some (.int .i64 n.f0) := Lib.cell_of_heap k1 0; have b0 : W6.cell? ⟨w.heap.size + 1 + 1, 0, none⟩ = some (.int .i64 0) := Lib.cell_of_heap k3 0; have d0 := Lib.frozen_of_heap k1 0; have e0 := Lib.frozen_of_heap k3 0; have a1 : W6.cell? ⟨w.heap.size, 1, none⟩ = some (.int .i64 n.f1.f0) := Lib.cell_of_heap k1 1; have b1 : W6.cell? ⟨w.heap.size + 1 + 1, 1, none⟩ = some (.int .i64 0) := Lib.cell_of_heap k3 1; have d1 := Lib.frozen_of_heap k1 1; have e1 := Lib.frozen_of_heap k3 1; have a2 : W6.cell? ⟨w.heap.size, 2, none⟩ = some (.string n.f1.f1) := Lib.cell_of_heap k1 2; have b2 : W6.cell? ⟨w.heap.size + 1 + 1, 2, none⟩ = some (.string ⟨#[]⟩) := Lib.cell_of_heap k3 2; have d2 := Lib.frozen_of_heap k1 2; have e2 := Lib.frozen_of_heap k3 2; have a3 : W6.cell? ⟨w.heap.size, 3, none⟩ = some (.slice (some ⟨g, 0, none⟩) n.f2.length cap) := Lib.cell_of_heap k1 3; have b3 : W6.cell? ⟨w.heap.size + 1 + 1, 3, none⟩ = some (.slice none 0 0) := Lib.cell_of_heap k3 3; have d3 := Lib.frozen_of_heap k1 3; have e3 := Lib.frozen_of_heap k3 3; clear k1 k3; go_wp2_with fail; refine bodyPost_ret (results_cell_row rfl _ _ (w.heap.size + 1 + 1) 26 #[.int .i64 n.f0, .int .i64 n.f1.f0, .string n.f1.f1, .slice (some ⟨g, 0, none⟩) n.f2.length cap] (0, 0) _ rfl (by refine blk_put (cs := #[.int .i64 n.f0, .int .i64 n.f1.f0, .string n.f1.f1, .slice none 0 0]) ?_ 3 _ rfl; refine blk_put (cs := #[.int .i64 n.f0, .int .i64 n.f1.f0, .string ⟨#[]⟩, .slice none 0 0]) ?_ 2 _ rfl; refine blk_put (cs := #[.int .i64 n.f0, .int .i64 0, .string ⟨#[]⟩, .slice none 0 0]) ?_ 1 _ rfl; refine blk_put (cs := #[.int .i64 0, .int .i64 0, .string ⟨#[]⟩, .slice none 0 0]) ?_ 0 _ rfl; exact HK3.out) Try.underlying26 rfl (by kernel_rfl)) rfl ?_
   have hok : ∀ k, (((Pn k ∨ Pb k) ∧ k < w.heap.size) ∨ w.heap.size + 3 ≤ k) → k ≠ w.heap.size + 1 + 1 := fun k hk => by rcases hk with hk | hk <;> omega
   refine ⟨some ⟨g, 0, none⟩, cap, by simp, by simpa using hcap, ?_, below_set (below_set (below_set (below_set HB6.out (by omega)) (by omega)) (by omega)) (by omega)⟩; refine Kd.F_mono ?_ (fun k (hk : ((Pn k ∨ Pb k) ∧ k < w.heap.size) ∨ w.heap.size + 3 ≤ k) => hk.elim (fun h => .inl h.1) (fun h => .inr (by omega))); refine Kd.F_far (Kd.F_far (Kd.F_far (Kd.F_far ?_ hok _) hok _) hok _) hok _
   simpa using HF6.out
def tree_put.f (a0_0 : Int) (a0_1 : Int) (a0_2 : ByteArray) (l0_3 : List (S26)) (l1 : List Int) (a2_0 : Int) (a2_1 : Int) (a2_2 : ByteArray) (l2_3 : List (S26)) : Option (Int × Int × ByteArray × List (S26)) :=
 (tree_put.go l1 ⟨a0_0, ⟨a0_1, a0_2⟩, l0_3⟩ ⟨a2_0, ⟨a2_1, a2_2⟩, l2_3⟩).bind fun r => some (r.f0, r.f1.f0, r.f1.f1, r.f2)
theorem tree_put.calls (a0_0 : Int) (a0_1 : Int) (a0_2 : ByteArray) (P0_3_ : Nat → Prop) (A0_3 : Option Addr) (c0_3 : Nat) (l0_3 : List (S26)) (A1 : Option Addr) (c1 : Nat) (l1 : List Int) (a2_0 : Int) (a2_1 : Int) (a2_2 : ByteArray) (P2_3_ : Nat → Prop) (A2_3 : Option Addr) (c2_3 : Nat) (l2_3 : List (S26)) (r1 : Int) (r2 : Int) (r3 : ByteArray) (r4 : List (S26)) (w : World) (hs0_3 : Kd.V k26 26 w w.heap.size (fun k_ => P0_3_ k_) (.slice A0_3 l0_3.length c0_3) l0_3) (hr1 : Kd.C (Kd.int .i64) w A1 l1.length l1) (hc1 : l1.length ≤ c1) (hs2_3 : Kd.V k26 26 w w.heap.size (fun k_ => P2_3_ k_) (.slice A2_3 l2_3.length c2_3) l2_3) (h : tree_put.f a0_0 a0_1 a0_2 l0_3 l1 a2_0 a2_1 a2_2 l2_3 = some (r1, r2, r3, r4)) :
  Calls Try.prog 77 #[.agg #[.int .i64 a0_0, .int .i64 a0_1, .string a0_2, .slice A0_3 l0_3.length c0_3], .slice A1 l1.length c1, .agg #[.int .i64 a2_0, .int .i64 a2_1, .string a2_2, .slice A2_3 l2_3.length c2_3]] w fun e w' => ∃ v3_ : Value, e = .returned (.agg #[.int .i64 r1, .int .i64 r2, .string r3, v3_]) ∧ Kd.V k26 26 w' w.heap.size (fun k_ => ((P0_3_ k_ ∨ P2_3_ k_) ∨ w.heap.size ≤ k_)) v3_ r4 ∧ Below w.heap.size w w' := by
 obtain ⟨r, hr, h⟩ := Option.bind_eq_some_iff.mp h; simp only [Option.some.injEq, Prod.mk.injEq] at h; obtain ⟨rfl, rfl, rfl, rfl⟩ := h; obtain ⟨_, h1, h2⟩ := Kd.V_at hs0_3; obtain ⟨_, h3, h4⟩ := Kd.V_at hs2_3; refine (tree_put.walk_ok l1 _ _ r A0_3 A1 A2_3 c0_3 c1 c2_3 P0_3_ P2_3_ w hr h1 h2 hc1 hr1 h3 h4).mono ?_; rintro e w' ⟨A', c', rfl, q1, q2, q3⟩; exact ⟨_, rfl, Kd.V_mk q1 q2, q3⟩

end Go.Proofs.Ytnafnieocpkkhaa.P

namespace Go.Proofs.Ytnafnieocpkkhaa.P
open Go.RowKit Go.Proofs.YtnafnieocpkkhaaW.PrintWords Go.Proofs.YtnafnieocpkkhaaW.PrintLast Go.Proofs.YtnafnieocpkkhaaW.PrintMore
attribute [local go_sem] max2_int min2_int max_two min_two max_three min_three max_four min_four
set_option linter.unusedVariables false
set_option linter.unusedSimpArgs false

def tree_Put.f (k : Nat) (a0_0 : Int) (a0_1 : Int) (a0_2 : ByteArray) (l0_3 : List (S26)) (l1 : List Int) (a2_0 : Int) (a2_1 : Int) (a2_2 : ByteArray) (l2_3 : List (S26)) : Option (Int × Int × ByteArray × List (S26) × Int) :=
 (tree_IsFormed.f k a0_0 a0_1 a0_2 l0_3).bind fun b => if b = true then ((tree_IsFormed.f k a2_0 a2_1 a2_2 l2_3).bind fun b2 => if b2 = true then ((tree_at.f k a0_0 a0_1 a0_2 l0_3 l1).bind fun t => if t.2.2.2.2.2 = true then ((tree_put.f a0_0 a0_1 a0_2 l0_3 l1 a2_0 a2_1 a2_2 l2_3).bind fun o => (tree_IsFormed.f k o.1 o.2.1 o.2.2.1 o.2.2.2).bind fun b3 => if b3 = true then ((tree_Clone.f k o.1 o.2.1 o.2.2.1 o.2.2.2).bind fun c => some (c.1, c.2.1, c.2.2.1, c.2.2.2, 0)) else some (0, 0, (⟨#[]⟩ : ByteArray), [], 4)) else some (0, 0, (⟨#[]⟩ : ByteArray), [], 2)) else some (0, 0, (⟨#[]⟩ : ByteArray), [], 4)) else some (0, 0, (⟨#[]⟩ : ByteArray), [], 4)
set_option maxHeartbeats 8000000 in
set_option maxRecDepth 100000 in
theorem tree_Put.calls (k : Nat) (a0_0 : Int) (a0_1 : Int) (a0_2 : ByteArray) (A0_3 : Option Addr) (c0_3 : Nat) (l0_3 : List (S26)) (A1 : Option Addr) (c1 : Nat) (l1 : List Int) (a2_0 : Int) (a2_1 : Int) (a2_2 : ByteArray) (A2_3 : Option Addr) (c2_3 : Nat) (l2_3 : List (S26)) (r1 : Int) (r2 : Int) (r3 : ByteArray) (r4 : List (S26)) (r5 : Int) (w : World) (hr0_3 : Kd.C k26 w A0_3 l0_3.length l0_3) (hc0_3 : l0_3.length ≤ c0_3) (hr1 : Kd.C (Kd.int .i64) w A1 l1.length l1) (hc1 : l1.length ≤ c1) (hr2_3 : Kd.C k26 w A2_3 l2_3.length l2_3) (hc2_3 : l2_3.length ≤ c2_3) (h : tree_Put.f k a0_0 a0_1 a0_2 l0_3 l1 a2_0 a2_1 a2_2 l2_3 = some (r1, r2, r3, r4, r5)) :
  Calls Try.prog 43 #[.agg #[.int .i64 a0_0, .int .i64 a0_1, .string a0_2, .slice A0_3 l0_3.length c0_3], .slice A1 l1.length c1, .agg #[.int .i64 a2_0, .int .i64 a2_1, .string a2_2, .slice A2_3 l2_3.length c2_3]] w fun e w' => ∃ v3_ : Value, e = .returned (.tuple #[.agg #[.int .i64 r1, .int .i64 r2, .string r3, v3_], .int .i64 r5]) ∧ Kd.R k26 26 w' w.heap.size (fun _ => True) v3_ r4 ∧ Below w.heap.size w w' := by
 have hu := Try.underlying26; have hw3 : Below w.heap.size w (((w.alloc (.cells #[.int .i64 a0_0, .int .i64 a0_1, .string a0_2, .slice A0_3 l0_3.length c0_3] 26)).alloc (.cells #[.int .i64 a2_0, .int .i64 a2_1, .string a2_2, .slice A2_3 l2_3.length c2_3] 26)).alloc (.cells #[.int .i64 0, .int .i64 0, .string ⟨#[]⟩, .slice none 0 0] 26)) := below_alloc (below_alloc (below_alloc (Below.refl _ _) _) _) _; have Cn := Aside0.mk (Kd.C_below hr0_3 hw3); have Cp := Aside0.mk (Kd.C_below hr1 hw3); have Cb := Aside0.mk (Kd.C_below hr2_3 hw3); have HB := Aside0.mk hw3; have H3 := Aside0.mk (show (((w.alloc (.cells #[.int .i64 a0_0, .int .i64 a0_1, .string a0_2, .slice A0_3 l0_3.length c0_3] 26)).alloc (.cells #[.int .i64 a2_0, .int .i64 a2_1, .string a2_2, .slice A2_3 l2_3.length c2_3] 26)).alloc (.cells #[.int .i64 0, .int .i64 0, .string ⟨#[]⟩, .slice none 0 0] 26)).heap[w.heap.size]? = some (.cells #[.int .i64 a0_0, .int .i64 a0_1, .string a0_2, .slice A0_3 l0_3.length c0_3] 26 (0, 0)) from blk_alloc (blk_alloc (blk_new w _) _) _); have H5 := Aside0.mk (show (((w.alloc (.cells #[.int .i64 a0_0, .int .i64 a0_1, .string a0_2, .slice A0_3 l0_3.length c0_3] 26)).alloc (.cells #[.int .i64 a2_0, .int .i64 a2_1, .string a2_2, .slice A2_3 l2_3.length c2_3] 26)).alloc (.cells #[.int .i64 0, .int .i64 0, .string ⟨#[]⟩, .slice none 0 0] 26)).heap[w.heap.size + 1]? = some (.cells #[.int .i64 a2_0, .int .i64 a2_1, .string a2_2, .slice A2_3 l2_3.length c2_3] 26 (0, 0)) from blk_alloc (by simpa using blk_new (w.alloc (.cells #[.int .i64 a0_0, .int .i64 a0_1, .string a0_2, .slice A0_3 l0_3.length c0_3] 26)) (.cells #[.int .i64 a2_0, .int .i64 a2_1, .string a2_2, .slice A2_3 l2_3.length c2_3] 26)) _); have H6 := Aside0.mk (show (((w.alloc (.cells #[.int .i64 a0_0, .int .i64 a0_1, .string a0_2, .slice A0_3 l0_3.length c0_3] 26)).alloc (.cells #[.int .i64 a2_0, .int .i64 a2_1, .string a2_2, .slice A2_3 l2_3.length c2_3] 26)).alloc (.cells #[.int .i64 0, .int .i64 0, .string ⟨#[]⟩, .slice none 0 0] 26)).heap[w.heap.size + 1 + 1]? = some (.cells #[.int .i64 0, .int .i64 0, .string ⟨#[]⟩, .slice none 0 0] 26 (0, 0)) by simpa using blk_new ((w.alloc (.cells #[.int .i64 a0_0, .int .i64 a0_1, .string a0_2, .slice A0_3 l0_3.length c0_3] 26)).alloc (.cells #[.int .i64 a2_0, .int .i64 a2_1, .string a2_2, .slice A2_3 l2_3.length c2_3] 26)) (.cells #[.int .i64 0, .int .i64 0, .string ⟨#[]⟩, .slice none 0 0] 26)); have HH := Aside0.mk h; clear hr0_3 hr1 hr2_3 hw3 h; obtain ⟨b1, E1, h⟩ := Option.bind_eq_some_iff.mp HH.out; have E1 := Aside0.mk E1; have HH2 := Aside0.mk h; clear h HH; go_enter Try.func43, Try.ntmps43; go_wp2_with fail; refine (tree_IsFormed.calls k a0_0 a0_1 a0_2 A0_3 c0_3 l0_3 b1 _ Cn.out hc0_3 E1.out).mono ?_; rintro e w4 ⟨rfl, hb⟩; replace Cn := Aside0.mk (Kd.C_below Cn.out hb); replace Cp := Aside0.mk (Kd.C_below Cp.out hb); replace Cb := Aside0.mk (Kd.C_below Cb.out hb); replace H3 := Aside0.mk (blk_below H3.out hb); replace H5 := Aside0.mk (blk_below H5.out hb); replace H6 := Aside0.mk (blk_below H6.out hb); replace HB := Aside0.mk (Cl.bstep HB.out hb); clear hb; obtain ⟨yH3_0, yH3_1, yH3_2, yH3_3⟩ := Cl.four H3.out; obtain ⟨yH5_0, yH5_1, yH5_2, yH5_3⟩ := Cl.four H5.out; obtain ⟨yH6_0, yH6_1, yH6_2, yH6_3⟩ := Cl.four H6.out; obtain ⟨zH6_0, zH6_1, zH6_2, zH6_3⟩ := Cl.ffour H6.out; have h := HH2.out
 cases b1 with
 | false =>
  rw [if_neg (by decide)] at h; simp only [Option.some.injEq, Prod.mk.injEq] at h; obtain ⟨rfl, rfl, rfl, rfl, rfl⟩ := h; go_wp2_with fail; refine bodyPost_ret (results_ct rfl _ _ (w.heap.size + 1 + 1) 26 #[.int .i64 0, .int .i64 0, .string ⟨#[]⟩, .slice none 0 0] (0, 0) _ rfl (by refine blk_put (cs := #[.int .i64 0, .int .i64 0, .string ⟨#[]⟩, .slice none 0 0]) ?_ 3 _ rfl; refine blk_put (cs := #[.int .i64 0, .int .i64 0, .string ⟨#[]⟩, .slice none 0 0]) ?_ 2 _ rfl; refine blk_put (cs := #[.int .i64 0, .int .i64 0, .string ⟨#[]⟩, .slice none 0 0]) ?_ 1 _ rfl; refine blk_put (cs := #[.int .i64 0, .int .i64 0, .string ⟨#[]⟩, .slice none 0 0]) ?_ 0 _ rfl; exact H6.out) Try.underlying26 rfl (by kernel_rfl)) rfl ?_; exact ⟨_, rfl, Kd.R_nil _ _ _ _ _, below_set (below_set (below_set (below_set HB.out (by omega)) (by omega)) (by omega)) (by omega)⟩
 | true =>
  rw [if_pos rfl] at h; obtain ⟨b2, E2, h⟩ := Option.bind_eq_some_iff.mp h; have E2 := Aside0.mk E2; have HH3 := Aside0.mk h; clear h HH2; go_wp2_with fail; refine (tree_IsFormed.calls k a2_0 a2_1 a2_2 A2_3 c2_3 l2_3 b2 _ Cb.out hc2_3 E2.out).mono ?_; rintro e w5 ⟨rfl, hb⟩; replace Cn := Aside0.mk (Kd.C_below Cn.out hb); replace Cp := Aside0.mk (Kd.C_below Cp.out hb); replace Cb := Aside0.mk (Kd.C_below Cb.out hb); replace H3 := Aside0.mk (blk_below H3.out hb); replace H5 := Aside0.mk (blk_below H5.out hb); replace H6 := Aside0.mk (blk_below H6.out hb); replace HB := Aside0.mk (Cl.bstep HB.out hb); clear hb yH3_0 yH3_1 yH3_2 yH3_3 yH5_0 yH5_1 yH5_2 yH5_3 yH6_0 yH6_1 yH6_2 yH6_3 zH6_0 zH6_1 zH6_2 zH6_3; obtain ⟨yH3_0, yH3_1, yH3_2, yH3_3⟩ := Cl.four H3.out; obtain ⟨yH5_0, yH5_1, yH5_2, yH5_3⟩ := Cl.four H5.out; obtain ⟨yH6_0, yH6_1, yH6_2, yH6_3⟩ := Cl.four H6.out; obtain ⟨zH6_0, zH6_1, zH6_2, zH6_3⟩ := Cl.ffour H6.out; have h := HH3.out
  cases b2 with
  | false =>
   rw [if_neg (by decide)] at h; simp only [Option.some.injEq, Prod.mk.injEq] at h; obtain ⟨rfl, rfl, rfl, rfl, rfl⟩ := h; go_wp2_with fail; refine bodyPost_ret (results_ct rfl _ _ (w.heap.size + 1 + 1) 26 #[.int .i64 0, .int .i64 0, .string ⟨#[]⟩, .slice none 0 0] (0, 0) _ rfl (by refine blk_put (cs := #[.int .i64 0, .int .i64 0, .string ⟨#[]⟩, .slice none 0 0]) ?_ 3 _ rfl; refine blk_put (cs := #[.int .i64 0, .int .i64 0, .string ⟨#[]⟩, .slice none 0 0]) ?_ 2 _ rfl; refine blk_put (cs := #[.int .i64 0, .int .i64 0, .string ⟨#[]⟩, .slice none 0 0]) ?_ 1 _ rfl; refine blk_put (cs := #[.int .i64 0, .int .i64 0, .string ⟨#[]⟩, .slice none 0 0]) ?_ 0 _ rfl; exact H6.out) Try.underlying26 rfl (by kernel_rfl)) rfl ?_; exact ⟨_, rfl, Kd.R_nil _ _ _ _ _, below_set (below_set (below_set (below_set HB.out (by omega)) (by omega)) (by omega)) (by omega)⟩
  | true =>
   rw [if_pos rfl] at h; obtain ⟨⟨t1, t2, t3, t4, t5, t6⟩, E3, h⟩ := Option.bind_eq_some_iff.mp h; have E3 := Aside0.mk E3; have HH4 := Aside0.mk h; clear h HH3; go_wp2_with fail; refine (tree_at.calls k a0_0 a0_1 a0_2 _ A0_3 c0_3 l0_3 A1 c1 l1 t1 t2 t3 t4 t5 t6 _ (Kd.V_mk hc0_3 (Kd.C_F k26_heap Cn.out)) Cp.out hc1 E3.out).mono ?_; rintro e w6 ⟨v3, rfl, hV, hb⟩; replace Cn := Aside0.mk (Kd.C_below Cn.out hb); replace Cp := Aside0.mk (Kd.C_below Cp.out hb); replace Cb := Aside0.mk (Kd.C_below Cb.out hb); replace H3 := Aside0.mk (blk_below H3.out hb); replace H5 := Aside0.mk (blk_below H5.out hb); replace H6 := Aside0.mk (blk_below H6.out hb); replace HB := Aside0.mk (Cl.bstep HB.out hb); obtain ⟨A6, c6, rfl⟩ := Kd.V_slice hV; clear hb hV yH3_0 yH3_1 yH3_2 yH3_3 yH5_0 yH5_1 yH5_2 yH5_3 yH6_0 yH6_1 yH6_2 yH6_3 zH6_0 zH6_1 zH6_2 zH6_3; obtain ⟨yH3_0, yH3_1, yH3_2, yH3_3⟩ := Cl.four H3.out; obtain ⟨yH5_0, yH5_1, yH5_2, yH5_3⟩ := Cl.four H5.out; obtain ⟨yH6_0, yH6_1, yH6_2, yH6_3⟩ := Cl.four H6.out; obtain ⟨zH6_0, zH6_1, zH6_2, zH6_3⟩ := Cl.ffour H6.out; have h := HH4.out
   (try dsimp only at h)
   cases t6 with
   | false =>
    rw [if_neg (by decide)] at h; have ha := below_alloc (Below.refl w6.heap.size w6) (.cells #[.int .i64 t1, .int .i64 t2, .string t3, .slice A6 t4.length c6] 26); replace Cn := Aside0.mk (Kd.C_below Cn.out ha); replace Cp := Aside0.mk (Kd.C_below Cp.out ha); replace Cb := Aside0.mk (Kd.C_below Cb.out ha); replace H3 := Aside0.mk (blk_below H3.out ha); replace H5 := Aside0.mk (blk_below H5.out ha); replace H6 := Aside0.mk (blk_below H6.out ha); replace HB := Aside0.mk (Cl.bstep HB.out ha); clear ha yH3_0 yH3_1 yH3_2 yH3_3 yH5_0 yH5_1 yH5_2 yH5_3 yH6_0 yH6_1 yH6_2 yH6_3 zH6_0 zH6_1 zH6_2 zH6_3; obtain ⟨yH3_0, yH3_1, yH3_2, yH3_3⟩ := Cl.four H3.out; obtain ⟨yH5_0, yH5_1, yH5_2, yH5_3⟩ := Cl.four H5.out; obtain ⟨yH6_0, yH6_1, yH6_2, yH6_3⟩ := Cl.four H6.out; obtain ⟨zH6_0, zH6_1, zH6_2, zH6_3⟩ := Cl.ffour H6.out; simp only [Option.some.injEq, Prod.mk.injEq] at h; obtain ⟨rfl, rfl, rfl, rfl, rfl⟩ := h; go_wp2_with fail; refine bodyPost_ret (results_ct rfl _ _ (w.heap.size + 1 + 1) 26 #[.int .i64 0, .int .i64 0, .string ⟨#[]⟩, .slice none 0 0] (0, 0) _ rfl (by refine blk_put (cs := #[.int .i64 0, .int .i64 0, .string ⟨#[]⟩, .slice none 0 0]) ?_ 3 _ rfl; refine blk_put (cs := #[.int .i64 0, .int .i64 0, .string ⟨#[]⟩, .slice none 0 0]) ?_ 2 _ rfl; refine blk_put (cs := #[.int .i64 0, .int .i64 0, .string ⟨#[]⟩, .slice none 0 0]) ?_ 1 _ rfl; refine blk_put (cs := #[.int .i64 0, .int .i64 0, .string ⟨#[]⟩, .slice none 0 0]) ?_ 0 _ rfl; exact H6.out) Try.underlying26 rfl (by kernel_rfl)) rfl ?_; exact ⟨_, rfl, Kd.R_nil _ _ _ _ _, below_set (below_set (below_set (below_set HB.out (by omega)) (by omega)) (by omega)) (by omega)⟩
   | true =>
    rw [if_pos rfl] at h; obtain ⟨⟨o1, o2, o3, o4⟩, E4, h⟩ := Option.bind_eq_some_iff.mp h; obtain ⟨b3, E5, h⟩ := Option.bind_eq_some_iff.mp h; have E4 := Aside0.mk E4; have E5 := Aside0.mk E5; have HH5 := Aside0.mk h; clear h HH4; have ha := below_alloc (Below.refl w6.heap.size w6) (.cells #[.int .i64 t1, .int .i64 t2, .string t3, .slice A6 t4.length c6] 26); replace Cn := Aside0.mk (Kd.C_below Cn.out ha); replace Cp := Aside0.mk (Kd.C_below Cp.out ha); replace Cb := Aside0.mk (Kd.C_below Cb.out ha); replace H3 := Aside0.mk (blk_below H3.out ha); replace H5 := Aside0.mk (blk_below H5.out ha); replace H6 := Aside0.mk (blk_below H6.out ha); replace HB := Aside0.mk (Cl.bstep HB.out ha); clear ha yH3_0 yH3_1 yH3_2 yH3_3 yH5_0 yH5_1 yH5_2 yH5_3 yH6_0 yH6_1 yH6_2 yH6_3 zH6_0 zH6_1 zH6_2 zH6_3; obtain ⟨yH3_0, yH3_1, yH3_2, yH3_3⟩ := Cl.four H3.out; obtain ⟨yH5_0, yH5_1, yH5_2, yH5_3⟩ := Cl.four H5.out; obtain ⟨yH6_0, yH6_1, yH6_2, yH6_3⟩ := Cl.four H6.out; obtain ⟨zH6_0, zH6_1, zH6_2, zH6_3⟩ := Cl.ffour H6.out; go_wp2_with fail; refine (tree_put.calls a0_0 a0_1 a0_2 _ A0_3 c0_3 l0_3 A1 c1 l1 a2_0 a2_1 a2_2 _ A2_3 c2_3 l2_3 o1 o2 o3 o4 _ (Kd.V_mk hc0_3 (Kd.C_F k26_heap Cn.out)) Cp.out hc1 (Kd.V_mk hc2_3 (Kd.C_F k26_heap Cb.out)) E4.out).mono ?_; rintro e w7 ⟨v4, rfl, hV, hb⟩; replace Cn := Aside0.mk (Kd.C_below Cn.out hb); replace Cp := Aside0.mk (Kd.C_below Cp.out hb); replace Cb := Aside0.mk (Kd.C_below Cb.out hb); replace H3 := Aside0.mk (blk_below H3.out hb); replace H5 := Aside0.mk (blk_below H5.out hb); replace H6 := Aside0.mk (blk_below H6.out hb); replace HB := Aside0.mk (Cl.bstep HB.out hb); obtain ⟨A7, c7, rfl⟩ := Kd.V_slice hV; obtain ⟨_, hoc, hCo⟩ := Kd.V_reads' hV; have Co := Aside0.mk hCo; clear hb hV hCo yH3_0 yH3_1 yH3_2 yH3_3 yH5_0 yH5_1 yH5_2 yH5_3 yH6_0 yH6_1 yH6_2 yH6_3 zH6_0 zH6_1 zH6_2 zH6_3; obtain ⟨yH3_0, yH3_1, yH3_2, yH3_3⟩ := Cl.four H3.out; obtain ⟨yH5_0, yH5_1, yH5_2, yH5_3⟩ := Cl.four H5.out; obtain ⟨yH6_0, yH6_1, yH6_2, yH6_3⟩ := Cl.four H6.out; obtain ⟨zH6_0, zH6_1, zH6_2, zH6_3⟩ := Cl.ffour H6.out; have ha := below_alloc (Below.refl w7.heap.size w7) (.cells #[.int .i64 o1, .int .i64 o2, .string o3, .slice A7 o4.length c7] 26)
    have H11 : Aside0 ((w7.alloc (.cells #[.int .i64 o1, .int .i64 o2, .string o3, .slice A7 o4.length c7] 26)).heap[w7.heap.size]? = some (.cells #[.int .i64 o1, .int .i64 o2, .string o3, .slice A7 o4.length c7] 26 (0, 0))) := ⟨blk_new w7 _⟩
    replace Cn := Aside0.mk (Kd.C_below Cn.out ha); replace Cp := Aside0.mk (Kd.C_below Cp.out ha); replace Cb := Aside0.mk (Kd.C_below Cb.out ha); replace H3 := Aside0.mk (blk_below H3.out ha); replace H5 := Aside0.mk (blk_below H5.out ha); replace H6 := Aside0.mk (blk_below H6.out ha); replace HB := Aside0.mk (Cl.bstep HB.out ha); replace Co := Aside0.mk (Kd.C_below Co.out ha); clear ha yH3_0 yH3_1 yH3_2 yH3_3 yH5_0 yH5_1 yH5_2 yH5_3 yH6_0 yH6_1 yH6_2 yH6_3 zH6_0 zH6_1 zH6_2 zH6_3; obtain ⟨yH3_0, yH3_1, yH3_2, yH3_3⟩ := Cl.four H3.out; obtain ⟨yH5_0, yH5_1, yH5_2, yH5_3⟩ := Cl.four H5.out; obtain ⟨yH6_0, yH6_1, yH6_2, yH6_3⟩ := Cl.four H6.out; obtain ⟨zH6_0, zH6_1, zH6_2, zH6_3⟩ := Cl.ffour H6.out; obtain ⟨yH11_0, yH11_1, yH11_2, yH11_3⟩ := Cl.four H11.out; go_wp2_with fail; refine (tree_IsFormed.calls k o1 o2 o3 A7 c7 o4 b3 _ Co.out hoc E5.out).mono ?_; rintro e w8 ⟨rfl, hb⟩; replace Cn := Aside0.mk (Kd.C_below Cn.out hb); replace Cp := Aside0.mk (Kd.C_below Cp.out hb); replace Cb := Aside0.mk (Kd.C_below Cb.out hb); replace H3 := Aside0.mk (blk_below H3.out hb); replace H5 := Aside0.mk (blk_below H5.out hb); replace H6 := Aside0.mk (blk_below H6.out hb); replace HB := Aside0.mk (Cl.bstep HB.out hb); replace Co := Aside0.mk (Kd.C_below Co.out hb); replace H11 := Aside0.mk (blk_below H11.out hb); clear hb yH3_0 yH3_1 yH3_2 yH3_3 yH5_0 yH5_1 yH5_2 yH5_3 yH6_0 yH6_1 yH6_2 yH6_3 zH6_0 zH6_1 zH6_2 zH6_3 yH11_0 yH11_1 yH11_2 yH11_3; obtain ⟨yH3_0, yH3_1, yH3_2, yH3_3⟩ := Cl.four H3.out; obtain ⟨yH5_0, yH5_1, yH5_2, yH5_3⟩ := Cl.four H5.out; obtain ⟨yH6_0, yH6_1, yH6_2, yH6_3⟩ := Cl.four H6.out; obtain ⟨zH6_0, zH6_1, zH6_2, zH6_3⟩ := Cl.ffour H6.out; obtain ⟨yH11_0, yH11_1, yH11_2, yH11_3⟩ := Cl.four H11.out; have h := HH5.out
    (try dsimp only at h)
    cases b3 with
    | false =>
     rw [if_neg (by decide)] at h; simp only [Option.some.injEq, Prod.mk.injEq] at h; obtain ⟨rfl, rfl, rfl, rfl, rfl⟩ := h; go_wp2_with fail; refine bodyPost_ret (results_ct rfl _ _ (w.heap.size + 1 + 1) 26 #[.int .i64 0, .int .i64 0, .string ⟨#[]⟩, .slice none 0 0] (0, 0) _ rfl (by refine blk_put (cs := #[.int .i64 0, .int .i64 0, .string ⟨#[]⟩, .slice none 0 0]) ?_ 3 _ rfl; refine blk_put (cs := #[.int .i64 0, .int .i64 0, .string ⟨#[]⟩, .slice none 0 0]) ?_ 2 _ rfl; refine blk_put (cs := #[.int .i64 0, .int .i64 0, .string ⟨#[]⟩, .slice none 0 0]) ?_ 1 _ rfl; refine blk_put (cs := #[.int .i64 0, .int .i64 0, .string ⟨#[]⟩, .slice none 0 0]) ?_ 0 _ rfl; exact H6.out) Try.underlying26 rfl (by kernel_rfl)) rfl ?_; exact ⟨_, rfl, Kd.R_nil _ _ _ _ _, below_set (below_set (below_set (below_set HB.out (by omega)) (by omega)) (by omega)) (by omega)⟩
    | true =>
     rw [if_pos rfl] at h; obtain ⟨⟨q1, q2, q3, q4⟩, E6, h⟩ := Option.bind_eq_some_iff.mp h; have E6 := Aside0.mk E6; simp only [Option.some.injEq, Prod.mk.injEq] at h; obtain ⟨rfl, rfl, rfl, rfl, rfl⟩ := h; clear HH5; have HS := Aside0.mk HB.out.size; have HL := Aside0.mk (blk_lt H6.out); go_wp2_with fail; refine (tree_Clone.calls k o1 o2 o3 A7 c7 o4 q1 q2 q3 q4 _ Co.out hoc E6.out).mono ?_; rintro e w9 ⟨v9, rfl, hR, hb⟩; replace Cn := Aside0.mk (Kd.C_below Cn.out hb); replace Cp := Aside0.mk (Kd.C_below Cp.out hb); replace Cb := Aside0.mk (Kd.C_below Cb.out hb); replace H3 := Aside0.mk (blk_below H3.out hb); replace H5 := Aside0.mk (blk_below H5.out hb); replace H6 := Aside0.mk (blk_below H6.out hb); replace HB := Aside0.mk (Cl.bstep HB.out hb); replace Co := Aside0.mk (Kd.C_below Co.out hb); replace H11 := Aside0.mk (blk_below H11.out hb); obtain ⟨A9, c9, rfl⟩ := Kd.R_slice hR; have HR := Aside0.mk (Kd.R_mono (ok' := fun k => k ≠ w.heap.size + 1 + 1) (Kd.R_lower (Kd.R_bound hR) HS.out) (fun k hk => by have h1 := hk.2.1; have h2 := HL.out; omega)); clear hb hR yH3_0 yH3_1 yH3_2 yH3_3 yH5_0 yH5_1 yH5_2 yH5_3 yH6_0 yH6_1 yH6_2 yH6_3 zH6_0 zH6_1 zH6_2 zH6_3 yH11_0 yH11_1 yH11_2 yH11_3; obtain ⟨yH3_0, yH3_1, yH3_2, yH3_3⟩ := Cl.four H3.out; obtain ⟨yH5_0, yH5_1, yH5_2, yH5_3⟩ := Cl.four H5.out; obtain ⟨yH6_0, yH6_1, yH6_2, yH6_3⟩ := Cl.four H6.out; obtain ⟨zH6_0, zH6_1, zH6_2, zH6_3⟩ := Cl.ffour H6.out; obtain ⟨yH11_0, yH11_1, yH11_2, yH11_3⟩ := Cl.four H11.out; go_wp2_with fail; refine bodyPost_ret (results_ct rfl _ _ (w.heap.size + 1 + 1) 26 #[.int .i64 q1, .int .i64 q2, .string q3, .slice A9 q4.length c9] (0, 0) _ rfl (by refine blk_put (cs := #[.int .i64 q1, .int .i64 q2, .string q3, .slice none 0 0]) ?_ 3 _ rfl; refine blk_put (cs := #[.int .i64 q1, .int .i64 q2, .string ⟨#[]⟩, .slice none 0 0]) ?_ 2 _ rfl; refine blk_put (cs := #[.int .i64 q1, .int .i64 0, .string ⟨#[]⟩, .slice none 0 0]) ?_ 1 _ rfl; refine blk_put (cs := #[.int .i64 0, .int .i64 0, .string ⟨#[]⟩, .slice none 0 0]) ?_ 0 _ rfl; exact H6.out) Try.underlying26 rfl (by kernel_rfl)) rfl ?_; exact ⟨_, rfl, Kd.R_mono (Kd.R_far (p := ⟨w.heap.size + 1 + 1, 3, none⟩) (Kd.R_far (p := ⟨w.heap.size + 1 + 1, 2, none⟩) (Kd.R_far (p := ⟨w.heap.size + 1 + 1, 1, none⟩) (Kd.R_far (p := ⟨w.heap.size + 1 + 1, 0, none⟩) HR.out (fun _ hk => hk) _) (fun _ hk => hk) _) (fun _ hk => hk) _) (fun _ hk => hk) _) (fun _ _ => trivial), below_set (below_set (below_set (below_set HB.out (by omega)) (by omega)) (by omega)) (by omega)⟩

end Go.Proofs.Ytnafnieocpkkhaa.P

namespace Go.Proofs.Ytnafnieocpkkhaa.P
open Go.RowKit Go.Proofs.YtnafnieocpkkhaaW.PrintWords Go.Proofs.YtnafnieocpkkhaaW.PrintLast Go.Proofs.YtnafnieocpkkhaaW.PrintMore
attribute [local go_sem] max2_int min2_int max_two min_two max_three min_three max_four min_four
set_option linter.unusedVariables false
set_option linter.unusedSimpArgs false

attribute [local go_sem high] eqA23
/-! ### marginaliaref05_Same: function 37 -/
mutual
def marginaliaref05_Same.j0 : Nat → Bool → Int → Int → ByteArray → List (S26) → Int → Int → ByteArray → List (S26) → Option (Bool)
 | 0, _, _, _, _, _, _, _, _, _ => none
 | k + 1, x26, x349000, x349001, x349002, x349003, x350000, x350001, x350002, x350003 => if x26 = true then (some false) else (marginaliaref05_Same.l0 k 0 x349000 x349001 x349002 x349003 x350000 x350001 x350002 x350003)
def marginaliaref05_Same.l0 : Nat → Int → Int → Int → ByteArray → List (S26) → Int → Int → ByteArray → List (S26) → Option (Bool)
 | 0, _, _, _, _, _, _, _, _, _ => none
 | k + 1, x5, x349000, x349001, x349002, x349003, x350000, x350001, x350002, x350003 => if x5 < (x349003.length : Int) then (if 0 ≤ x5 then (if x5 < (x350003.length : Int) then ((marginaliaref05_Same.f k ((rd_T26 x349003 x5).f0) ((rd_T26 x349003 x5).f1.f0) ((rd_T26 x349003 x5).f1.f1) ((rd_T26 x349003 x5).f2) ((rd_T26 x350003 x5).f0) ((rd_T26 x350003 x5).f1.f0) ((rd_T26 x350003 x5).f1.f1) ((rd_T26 x350003 x5).f2)).bind fun t352 => (if t352 = true then (marginaliaref05_Same.l0 k (wrap64 (x5 + 1)) x349000 x349001 x349002 x349003 x350000 x350001 x350002 x350003) else (some false))) else (none)) else (none)) else (some true)
def marginaliaref05_Same.f : Nat → Int → Int → ByteArray → List (S26) → Int → Int → ByteArray → List (S26) → Option (Bool)
 | 0, _, _, _, _, _, _, _, _ => none
 | k + 1, a0_0, a0_1, a0_2, l0_3, a1_0, a1_1, a1_2, l1_3 => if a0_0 = a1_0 then (if (!(a0_1 == a1_1) || (!(a0_2.toList == a1_2.toList))) = true then (marginaliaref05_Same.j0 k true a0_0 a0_1 a0_2 l0_3 a1_0 a1_1 a1_2 l1_3) else (marginaliaref05_Same.j0 k ((l0_3.length : Int) != (l1_3.length : Int)) a0_0 a0_1 a0_2 l0_3 a1_0 a1_1 a1_2 l1_3)) else (marginaliaref05_Same.j0 k true a0_0 a0_1 a0_2 l0_3 a1_0 a1_1 a1_2 l1_3)
end
def marginaliaref05_Same.T6 : Bool × List (List Nat × List Nat) := (true, [([], []), ([0], [0]), ([], []), ([1, 2], [1, 2]), ([3], [3]), ([], []), ([5], [5]), ([], []), ([6, 7], [6, 7]), ([8], [8]), ([4, 9], [4, 9]), ([10], [10])])
def marginaliaref05_Same.B6 : List Nat := [0, 1, 0, 7, 15, 0, 32, 0, 224, 480, 1023, 2047]
theorem marginaliaref05_Same.tab6 : rtab .any (opsOf Try.f37 6) = marginaliaref05_Same.T6 := by kernel_rfl
theorem marginaliaref05_Same.bits6 : waitsOk marginaliaref05_Same.T6.2 marginaliaref05_Same.B6 = true := by kernel_rfl
set_option maxHeartbeats 8000000 in
set_option maxRecDepth 100000 in
theorem marginaliaref05_Same.calls (k : Nat) : ∀ (a0_0 : Int) (a0_1 : Int) (a0_2 : ByteArray) (A0_3 : Option Addr) (c0_3 : Nat) (l0_3 : List (S26)) (a1_0 : Int) (a1_1 : Int) (a1_2 : ByteArray) (A1_3 : Option Addr) (c1_3 : Nat) (l1_3 : List (S26)) (r : Bool) (w : World) (hr0_3 : Kd.C k26 w A0_3 l0_3.length l0_3) (hc0_3 : l0_3.length ≤ c0_3) (hr1_3 : Kd.C k26 w A1_3 l1_3.length l1_3) (hc1_3 : l1_3.length ≤ c1_3) (h : marginaliaref05_Same.f k a0_0 a0_1 a0_2 l0_3 a1_0 a1_1 a1_2 l1_3 = some r),
  Calls Try.prog 37 #[.agg #[.int .i64 a0_0, .int .i64 a0_1, .string a0_2, .slice A0_3 l0_3.length c0_3], .agg #[.int .i64 a1_0, .int .i64 a1_1, .string a1_2, .slice A1_3 l1_3.length c1_3]] w fun e w' => e = .returned (.bool r) ∧ Below w.heap.size w w' := by
 induction k using Nat.strongRecOn with
 | _ k ih =>
 intro a0_0 a0_1 a0_2 A0_3 c0_3 l0_3 a1_0 a1_1 a1_2 A1_3 c1_3 l1_3 r w hr0_3 hc0_3 hr1_3 hc1_3 h
 cases k with
 | zero => exact absurd h (by simp [marginaliaref05_Same.f])
 | succ k =>
 simp only [marginaliaref05_Same.f] at h; have hu26 := Try.underlying26; have hu23 := Try.underlying23; have HR0_3 := Aside0.mk hr0_3; have HC0_3 := Aside0.mk hc0_3; clear hr0_3 hc0_3; have HR1_3 := Aside0.mk hr1_3; have HC1_3 := Aside0.mk hc1_3; clear hr1_3 hc1_3; have HB := Aside0.mk (Below.refl w.heap.size w); have H : (if a0_0 = a1_0 then (if (!(a0_1 == a1_1) || (!(a0_2.toList == a1_2.toList))) = true then (marginaliaref05_Same.j0 k true a0_0 a0_1 a0_2 l0_3 a1_0 a1_1 a1_2 l1_3) else (marginaliaref05_Same.j0 k ((l0_3.length : Int) != (l1_3.length : Int)) a0_0 a0_1 a0_2 l0_3 a1_0 a1_1 a1_2 l1_3)) else (marginaliaref05_Same.j0 k true a0_0 a0_1 a0_2 l0_3 a1_0 a1_1 a1_2 l1_3)) = some r := h; clear h; have HC3 := Aside0.mk H; clear H; go_enter Try.func37, Try.ntmps37
 go_upto_region 1 with (first | ((with_reducible refine zD 2 rfl ?_); (try (refine gate_guard (by rfl) ?_; dsimp only)); refine zx 2 #[.int .i64 a0_0, .int .i64 a0_1, .string a0_2, .slice A0_3 l0_3.length c0_3] 26 ?_; intro gb348 hg w4 hbox hb; have BK348 := Aside0.mk (hbox); have GW348 := (zq hg : Aside0 (w.heap.size ≤ gb348)); have GE348 := GW348; replace HB := (zB hb); clear hb hbox hg) | ((with_reducible refine zD 3 rfl ?_); (try (refine gate_guard (by rfl) ?_; dsimp only)); refine zx 3 #[.int .i64 a1_0, .int .i64 a1_1, .string a1_2, .slice A1_3 l1_3.length c1_3] 26 ?_; intro gb349 hg w5 hbox hb; have BK349 := Aside0.mk (hbox); have GW349 := (zq hg : Aside0 (w.heap.size ≤ gb349)); have GE349 := GW349; replace HB := (zB hb); have NB348_349 := (zl hg BK348 : Aside0 (gb348 ≠ gb349)); have NB349_348 := (zl' hg BK348 : Aside0 (gb349 ≠ gb348)); replace BK348 := (zK BK348 hb); clear hb hbox hg))
 (try simp only [Act.put, List.setIfInBounds_toArray, List.set_cons_zero, List.set_cons_succ])
 go_cut [26] (fun v26 wc => ∃ (kq : Nat) (x26_2 : Bool), v26 = .bool x26_2 ∧ Aside0 (marginaliaref05_Same.j0 kq x26_2 a0_0 a0_1 a0_2 l0_3 a1_0 a1_1 a1_2 l1_3 = some r) ∧ Aside0 (kq ≤ k) ∧ Aside0 (wc.heap[gb348]? = some (.cells #[.int .i64 a0_0, .int .i64 a0_1, .string a0_2, (.slice A0_3 l0_3.length c0_3)] 26 (0, 0))) ∧ Aside0 (wc.heap[gb349]? = some (.cells #[.int .i64 a1_0, .int .i64 a1_1, .string a1_2, (.slice A1_3 l1_3.length c1_3)] 26 (0, 0))) ∧ Aside0 (Below w.heap.size w wc))
 case first =>
  have H := HC3.out; clear HC3; by_cases c6 : a0_0 = a1_0
  ·rw [if_pos c6] at H; have c6b0 : (a0_0 == a1_0) = true := beq_iff_eq.mpr c6; have c6b1 : (a0_0 != a1_0) = false := bne_eq_false_iff_eq.mpr c6; clear c6
   (first | rw [c6b0] | (simp only [i64_w, i32_w]; rw [c6b0]) | skip)
   by_cases c7 : (!(a0_1 == a1_1) || (!(a0_2.toList == a1_2.toList))) = true
   ·rw [if_pos c7] at H; have c7b0 : (!(a0_1 == a1_1) || (!(a0_2.toList == a1_2.toList))) = true := c7; clear c7; have H' := Aside0.mk H; clear H; have hnb8 := NB348_349.out; have hnc8 := NB349_348.out; obtain ⟨hcz9_0, hcz9_1, hcz9_2, hcz9_3⟩ := zc4 BK348; obtain ⟨hfz9_0, hfz9_1, hfz9_2, hfz9_3⟩ := zz4 BK348; obtain ⟨hcz10_0, hcz10_1, hcz10_2, hcz10_3⟩ := zc4 BK349; obtain ⟨hfz10_0, hfz10_1, hfz10_2, hfz10_3⟩ := zz4 BK349; go_wp2
    go_meet
    case rel => exact ⟨_, (true), zs, H', ⟨by first | omega | exact Nat.le_refl _⟩, (zA BK348), (zA BK349), ⟨zb⟩⟩
   ·rw [if_neg c7] at H
    have c7b0 : (!(a0_1 == a1_1) || (!(a0_2.toList == a1_2.toList))) = false := (by simpa using c7)
    clear c7; have H' := Aside0.mk H; clear H; have hnb11 := NB348_349.out; have hnc11 := NB349_348.out; obtain ⟨hcz12_0, hcz12_1, hcz12_2, hcz12_3⟩ := zc4 BK348; obtain ⟨hfz12_0, hfz12_1, hfz12_2, hfz12_3⟩ := zz4 BK348; obtain ⟨hcz13_0, hcz13_1, hcz13_2, hcz13_3⟩ := zc4 BK349; obtain ⟨hfz13_0, hfz13_1, hfz13_2, hfz13_3⟩ := zz4 BK349; go_wp2
    go_meet
    case rel => exact ⟨_, (((l0_3.length : Int) != (l1_3.length : Int))), zs, H', ⟨by first | omega | exact Nat.le_refl _⟩, (zA BK348), (zA BK349), ⟨zb⟩⟩
  ·rw [if_neg c6] at H; have c6b0 : (a0_0 == a1_0) = false := beq_eq_false_iff_ne.mpr c6; have c6b1 : (a0_0 != a1_0) = true := bne_iff_ne.mpr c6
   (first | rw [c6b0] | (simp only [i64_w, i32_w]; rw [c6b0]) | skip)
   have H' := Aside0.mk H; clear H; have hnb14 := NB348_349.out; have hnc14 := NB349_348.out; obtain ⟨hcz15_0, hcz15_1, hcz15_2, hcz15_3⟩ := zc4 BK348; obtain ⟨hfz15_0, hfz15_1, hfz15_2, hfz15_3⟩ := zz4 BK348; obtain ⟨hcz16_0, hcz16_1, hcz16_2, hcz16_3⟩ := zc4 BK349; obtain ⟨hfz16_0, hfz16_1, hfz16_2, hfz16_3⟩ := zz4 BK349; go_wp2
   go_meet
   case rel => exact ⟨_, (true), zs, H', ⟨by first | omega | exact Nat.le_refl _⟩, (zA BK348), (zA BK349), ⟨zb⟩⟩
 case rest =>
  clear HC3; obtain ⟨kq, x26_2, rfl, HA, HJ2, BK348, BK349, HB⟩ := hcut
  cases kq with
  | zero => exact absurd HA.out (by simp [marginaliaref05_Same.j0])
  | succ kj2 =>
   have H := HA.out; clear HA; simp only [marginaliaref05_Same.j0] at H; by_cases c17 : x26_2 = true
   ·subst c17; rw [if_pos rfl] at H; obtain rfl := Option.some.inj H; go_wp2; go_ret; exact ⟨zr, zb⟩
   ·replace c17 := Bool.eq_false_iff.mpr c17; subst c17; replace H := zf H; have H' := Aside0.mk H; clear H; go_wp2
    go_loopg [5] kj2 (fun kq v5 w' => ∃ (x5_2 : Int), v5 = .int .i64 x5_2 ∧ Aside0 (marginaliaref05_Same.l0 kq x5_2 a0_0 a0_1 a0_2 l0_3 a1_0 a1_1 a1_2 l1_3 = some r) ∧ Aside0 (kq ≤ kj2) ∧ Aside0 (w'.heap[gb348]? = some (.cells #[.int .i64 a0_0, .int .i64 a0_1, .string a0_2, (.slice A0_3 l0_3.length c0_3)] 26 (0, 0))) ∧ Aside0 (w'.heap[gb349]? = some (.cells #[.int .i64 a1_0, .int .i64 a1_1, .string a1_2, (.slice A1_3 l1_3.length c1_3)] 26 (0, 0))) ∧ Aside0 (Below w.heap.size w w'))
    case atStart => exact ⟨(0), zs, H', ⟨Nat.le_refl _⟩, (zA BK348), (zA BK349), ⟨zb⟩⟩
    case round =>
     clear H'; obtain ⟨x5_2, rfl, HA, HK2, BK348, BK349, HB⟩ := hrel
     cases gk with
     | zero => exact absurd HA.out (by simp [marginaliaref05_Same.l0])
     | succ k2 =>
      have H := HA.out; clear HA; simp only [marginaliaref05_Same.l0] at H; by_cases c18 : x5_2 < (l0_3.length : Int)
      ·rw [if_pos c18] at H; have c18b0 := decide_eq_true c18; clear c18; replace H := zi1 H; obtain ⟨c19b0, H⟩ := H; replace H := zi1 H; obtain ⟨c20b0, H⟩ := H; replace H := zo H; obtain ⟨t352, A21, H⟩ := H; by_cases c22 : t352 = true
       ·subst c22; rw [if_pos rfl] at H; have H' := Aside0.mk H; clear H; have hnb23 := NB348_349.out; have hnc23 := NB349_348.out; obtain ⟨hcz24_0, hcz24_1, hcz24_2, hcz24_3⟩ := zc4 BK348; obtain ⟨hfz24_0, hfz24_1, hfz24_2, hfz24_3⟩ := zz4 BK348
        try go_wp2
        replace BK348 := Aside0.mk (blk_drew BK348.out); replace BK349 := Aside0.mk (blk_drew BK349.out); replace HB := Aside0.mk (below_drew1 HB.out); have p350 : 0 ≤ (x5_2 : Int) := zt; have q350 : x5_2 < (l0_3.length : Int) := zt; obtain ⟨ad350, A350_3, c350_3, e350, hx350_0, hx350_1, hx350_2, hx350_3, hl350_3, hi350_3⟩ := at_T26 HR0_3.out x5_2 p350 q350; have hw350_3 := hx350_3; have hw350_2 := hx350_2; have hw350_1 := hx350_1; have hw350_0 := hx350_0
        cases e350
        replace hx350_0 := zh HB hx350_0; replace hx350_1 := zh HB hx350_1; replace hx350_2 := zh HB hx350_2; replace hx350_3 := zh HB hx350_3; have HR350_3 := Aside0.mk hi350_3; have HC350_3 := Aside0.mk hl350_3; clear hi350_3 hl350_3; replace p350 := eq_true p350; replace q350 := eq_true q350; have p351 : 0 ≤ (x5_2 : Int) := zt; have q351 : x5_2 < (l1_3.length : Int) := zt; obtain ⟨ad351, A351_3, c351_3, e351, hx351_0, hx351_1, hx351_2, hx351_3, hl351_3, hi351_3⟩ := at_T26 HR1_3.out x5_2 p351 q351; have hw351_3 := hx351_3; have hw351_2 := hx351_2; have hw351_1 := hx351_1; have hw351_0 := hx351_0
        cases e351
        replace hx351_0 := zh HB hx351_0; replace hx351_1 := zh HB hx351_1; replace hx351_2 := zh HB hx351_2; replace hx351_3 := zh HB hx351_3; have HR351_3 := Aside0.mk hi351_3; have HC351_3 := Aside0.mk hl351_3; clear hi351_3 hl351_3; replace p351 := eq_true p351; replace q351 := eq_true q351; refine start_ (n := 12) (S := fun w' => w'.cell? ⟨gb348, 0, none⟩ = some (.int .i64 a0_0) ∧ w'.cell? ⟨gb348, 1, none⟩ = some (.int .i64 a0_1) ∧ w'.cell? ⟨gb348, 2, none⟩ = some (.string a0_2) ∧ w'.cell? ⟨gb348, 3, none⟩ = some (.slice (some ad350) l0_3.length c0_3) ∧ w'.cell? ⟨gb349, 0, none⟩ = some (.int .i64 a1_0) ∧ w'.cell? ⟨gb349, 1, none⟩ = some (.int .i64 a1_1) ∧ w'.cell? ⟨gb349, 2, none⟩ = some (.string a1_2) ∧ w'.cell? ⟨gb349, 3, none⟩ = some (.slice (some ad351) l1_3.length c1_3) ∧ w'.cell? (ad350.add ((x5_2).toNat * 4)) = some (.int .i64 ((rd_T26 l0_3 x5_2).f0)) ∧ w'.cell? ⟨(ad350.add ((x5_2).toNat * 4)).block, (ad350.add ((x5_2).toNat * 4)).off + 1, none⟩ = some (.int .i64 ((rd_T26 l0_3 x5_2).f1.f0)) ∧ w'.cell? ⟨(ad350.add ((x5_2).toNat * 4)).block, (ad350.add ((x5_2).toNat * 4)).off + 2, none⟩ = some (.string ((rd_T26 l0_3 x5_2).f1.f1)) ∧ w'.cell? ⟨(ad350.add ((x5_2).toNat * 4)).block, (ad350.add ((x5_2).toNat * 4)).off + 3, none⟩ = some (.slice A350_3 ((rd_T26 l0_3 x5_2).f2).length c350_3) ∧ w'.cell? (ad351.add ((x5_2).toNat * 4)) = some (.int .i64 ((rd_T26 l1_3 x5_2).f0)) ∧ w'.cell? ⟨(ad351.add ((x5_2).toNat * 4)).block, (ad351.add ((x5_2).toNat * 4)).off + 1, none⟩ = some (.int .i64 ((rd_T26 l1_3 x5_2).f1.f0)) ∧ w'.cell? ⟨(ad351.add ((x5_2).toNat * 4)).block, (ad351.add ((x5_2).toNat * 4)).off + 2, none⟩ = some (.string ((rd_T26 l1_3 x5_2).f1.f1)) ∧ w'.cell? ⟨(ad351.add ((x5_2).toNat * 4)).block, (ad351.add ((x5_2).toNat * 4)).off + 3, none⟩ = some (.slice A351_3 ((rd_T26 l1_3 x5_2).f2).length c351_3)) (ds := []) #[false, false, false, false, false, false, false, false, false, false, false, false] (by kernel_rfl) rfl rfl ⟨(blk_cell BK348.out 0).trans rfl, (blk_cell BK348.out 1).trans rfl, (blk_cell BK348.out 2).trans rfl, (blk_cell BK348.out 3).trans rfl, (blk_cell BK349.out 0).trans rfl, (blk_cell BK349.out 1).trans rfl, (blk_cell BK349.out 2).trans rfl, (blk_cell BK349.out 3).trans rfl, ((HB.out.cell (World.block_lt_of_cell? w _ hw350_0)).trans hw350_0), ((HB.out.cell (World.block_lt_of_cell? w _ hw350_1)).trans hw350_1), ((HB.out.cell (World.block_lt_of_cell? w _ hw350_2)).trans hw350_2), ((HB.out.cell (World.block_lt_of_cell? w _ hw350_3)).trans hw350_3), ((HB.out.cell (World.block_lt_of_cell? w _ hw351_0)).trans hw351_0), ((HB.out.cell (World.block_lt_of_cell? w _ hw351_1)).trans hw351_1), ((HB.out.cell (World.block_lt_of_cell? w _ hw351_2)).trans hw351_2), ((HB.out.cell (World.block_lt_of_cell? w _ hw351_3)).trans hw351_3)⟩ (fun hHeld => ?_); refine with_tabW marginaliaref05_Same.tab6 marginaliaref05_Same.bits6 (fun HT_ HW_ => ?_); generalize wr.drew = w25 at BK348 BK349 HB HR350_3 HR351_3 hx350_0 hx350_1 hx350_2 hx350_3 hx351_0 hx351_1 hx351_2 hx351_3 hHeld ⊢; refine zp 0 34 HT_ ?_; refine zp 2 36 HT_ ?_; refine zp 5 39 HT_ ?_; refine zp 7 41 HT_ ?_; refine zy 1 35 HT_ HW_ hHeld ?_; refine zp 3 37 HT_ ?_; refine zy 4 38 HT_ HW_ hHeld ?_; refine zy 6 40 HT_ HW_ hHeld ?_; refine zp 8 42 HT_ ?_; refine zy 9 43 HT_ HW_ hHeld ?_; refine one_ (i := 10) (N := some 44) #[true, true, true, true, true, true, true, true, true, true, true, false] rfl rfl (one_of HT_.out (by kernel_rfl)) (by decide) (fun K hK => ?_); refine goes_ Try.func37 (by kernel_rfl) rfl #[.agg #[.int .i64 ((rd_T26 l0_3 x5_2).f0), .int .i64 ((rd_T26 l0_3 x5_2).f1.f0), .string ((rd_T26 l0_3 x5_2).f1.f1), .slice A350_3 ((rd_T26 l0_3 x5_2).f2).length c350_3], .agg #[.int .i64 ((rd_T26 l1_3 x5_2).f0), .int .i64 ((rd_T26 l1_3 x5_2).f1.f0), .string ((rd_T26 l1_3 x5_2).f1.f1), .slice A351_3 ((rd_T26 l1_3 x5_2).f2).length c351_3]] (by rfl) rfl rfl (by (try simp only [List.map_toArray, List.map_cons, List.map_nil]); first | done | rfl | (simp only [List.length_drop, List.length_take]; rfl)) ?_
        with_reducible refine (ih k2 (by have := HJ2.out; have := HK2.out; omega) ((rd_T26 l0_3 x5_2).f0) ((rd_T26 l0_3 x5_2).f1.f0) ((rd_T26 l0_3 x5_2).f1.f1) _ _ ((rd_T26 l0_3 x5_2).f2) ((rd_T26 l1_3 x5_2).f0) ((rd_T26 l1_3 x5_2).f1.f0) ((rd_T26 l1_3 x5_2).f1.f1) _ _ ((rd_T26 l1_3 x5_2).f2) true _ ?side1 ?side2 ?side3 ?side4 A21.out).mono ?_
        (case side1 => exact zC HR350_3)
        (case side2 => exact HC350_3.out)
        (case side3 => exact zC HR351_3)
        (case side4 => exact HC351_3.out)
        rintro e w26 ⟨rfl, hb⟩; refine ⟨_, rfl, ?_⟩
        replace BK348 := (zK BK348 hb)
        replace BK349 := (zK BK349 hb)
        replace HB := (zB hb)
        (try clear hb)
        (try clear hb2)
        (try clear hk)
        (try clear hi)
        refine hK.out _ _ ⟨(blk_cell BK348.out 0).trans rfl, (blk_cell BK348.out 1).trans rfl, (blk_cell BK348.out 2).trans rfl, (blk_cell BK348.out 3).trans rfl, (blk_cell BK349.out 0).trans rfl, (blk_cell BK349.out 1).trans rfl, (blk_cell BK349.out 2).trans rfl, (blk_cell BK349.out 3).trans rfl, ((HB.out.cell (World.block_lt_of_cell? w _ hw350_0)).trans hw350_0), ((HB.out.cell (World.block_lt_of_cell? w _ hw350_1)).trans hw350_1), ((HB.out.cell (World.block_lt_of_cell? w _ hw350_2)).trans hw350_2), ((HB.out.cell (World.block_lt_of_cell? w _ hw350_3)).trans hw350_3), ((HB.out.cell (World.block_lt_of_cell? w _ hw351_0)).trans hw351_0), ((HB.out.cell (World.block_lt_of_cell? w _ hw351_1)).trans hw351_1), ((HB.out.cell (World.block_lt_of_cell? w _ hw351_2)).trans hw351_2), ((HB.out.cell (World.block_lt_of_cell? w _ hw351_3)).trans hw351_3)⟩ (fun hHeld => ?_); clear hK K; refine norm_ (a' := ?_) ?_ ?_; rotate_left
        ·show Act.put _ (some 44) _ = _
         simp only [Act.put, List.setIfInBounds_toArray, List.set_cons_zero, List.set_cons_succ, i64_w, i32_w]; rfl
        refine zp 11 45 HT_ ?_; refine done_ (done_of HT_.out (by kernel_rfl)) ?_
        try go_wp2
        go_roundg k2
        case measure => have := HJ2.out; have := HK2.out; omega
        case rel => exact ⟨(wrap64 (x5_2 + 1)), zs, H', ⟨by have := HJ2.out; have := HK2.out; omega⟩, (zA BK348), (zA BK349), ⟨zb⟩⟩
       ·replace c22 := Bool.eq_false_iff.mpr c22; subst c22; replace H := zf H; obtain rfl := Option.some.inj H; have hnb27 := NB348_349.out; have hnc27 := NB349_348.out; obtain ⟨hcz28_0, hcz28_1, hcz28_2, hcz28_3⟩ := zc4 BK348; obtain ⟨hfz28_0, hfz28_1, hfz28_2, hfz28_3⟩ := zz4 BK348
        try go_wp2
        replace BK348 := Aside0.mk (blk_drew BK348.out); replace BK349 := Aside0.mk (blk_drew BK349.out); replace HB := Aside0.mk (below_drew1 HB.out); have p350 : 0 ≤ (x5_2 : Int) := zt; have q350 : x5_2 < (l0_3.length : Int) := zt; obtain ⟨ad350, A350_3, c350_3, e350, hx350_0, hx350_1, hx350_2, hx350_3, hl350_3, hi350_3⟩ := at_T26 HR0_3.out x5_2 p350 q350; have hw350_3 := hx350_3; have hw350_2 := hx350_2; have hw350_1 := hx350_1; have hw350_0 := hx350_0
        cases e350
        replace hx350_0 := zh HB hx350_0; replace hx350_1 := zh HB hx350_1; replace hx350_2 := zh HB hx350_2; replace hx350_3 := zh HB hx350_3; have HR350_3 := Aside0.mk hi350_3; have HC350_3 := Aside0.mk hl350_3; clear hi350_3 hl350_3; replace p350 := eq_true p350; replace q350 := eq_true q350; have p351 : 0 ≤ (x5_2 : Int) := zt; have q351 : x5_2 < (l1_3.length : Int) := zt; obtain ⟨ad351, A351_3, c351_3, e351, hx351_0, hx351_1, hx351_2, hx351_3, hl351_3, hi351_3⟩ := at_T26 HR1_3.out x5_2 p351 q351; have hw351_3 := hx351_3; have hw351_2 := hx351_2; have hw351_1 := hx351_1; have hw351_0 := hx351_0
        cases e351
        replace hx351_0 := zh HB hx351_0; replace hx351_1 := zh HB hx351_1; replace hx351_2 := zh HB hx351_2; replace hx351_3 := zh HB hx351_3; have HR351_3 := Aside0.mk hi351_3; have HC351_3 := Aside0.mk hl351_3; clear hi351_3 hl351_3; replace p351 := eq_true p351; replace q351 := eq_true q351; refine start_ (n := 12) (S := fun w' => w'.cell? ⟨gb348, 0, none⟩ = some (.int .i64 a0_0) ∧ w'.cell? ⟨gb348, 1, none⟩ = some (.int .i64 a0_1) ∧ w'.cell? ⟨gb348, 2, none⟩ = some (.string a0_2) ∧ w'.cell? ⟨gb348, 3, none⟩ = some (.slice (some ad350) l0_3.length c0_3) ∧ w'.cell? ⟨gb349, 0, none⟩ = some (.int .i64 a1_0) ∧ w'.cell? ⟨gb349, 1, none⟩ = some (.int .i64 a1_1) ∧ w'.cell? ⟨gb349, 2, none⟩ = some (.string a1_2) ∧ w'.cell? ⟨gb349, 3, none⟩ = some (.slice (some ad351) l1_3.length c1_3) ∧ w'.cell? (ad350.add ((x5_2).toNat * 4)) = some (.int .i64 ((rd_T26 l0_3 x5_2).f0)) ∧ w'.cell? ⟨(ad350.add ((x5_2).toNat * 4)).block, (ad350.add ((x5_2).toNat * 4)).off + 1, none⟩ = some (.int .i64 ((rd_T26 l0_3 x5_2).f1.f0)) ∧ w'.cell? ⟨(ad350.add ((x5_2).toNat * 4)).block, (ad350.add ((x5_2).toNat * 4)).off + 2, none⟩ = some (.string ((rd_T26 l0_3 x5_2).f1.f1)) ∧ w'.cell? ⟨(ad350.add ((x5_2).toNat * 4)).block, (ad350.add ((x5_2).toNat * 4)).off + 3, none⟩ = some (.slice A350_3 ((rd_T26 l0_3 x5_2).f2).length c350_3) ∧ w'.cell? (ad351.add ((x5_2).toNat * 4)) = some (.int .i64 ((rd_T26 l1_3 x5_2).f0)) ∧ w'.cell? ⟨(ad351.add ((x5_2).toNat * 4)).block, (ad351.add ((x5_2).toNat * 4)).off + 1, none⟩ = some (.int .i64 ((rd_T26 l1_3 x5_2).f1.f0)) ∧ w'.cell? ⟨(ad351.add ((x5_2).toNat * 4)).block, (ad351.add ((x5_2).toNat * 4)).off + 2, none⟩ = some (.string ((rd_T26 l1_3 x5_2).f1.f1)) ∧ w'.cell? ⟨(ad351.add ((x5_2).toNat * 4)).block, (ad351.add ((x5_2).toNat * 4)).off + 3, none⟩ = some (.slice A351_3 ((rd_T26 l1_3 x5_2).f2).length c351_3)) (ds := []) #[false, false, false, false, false, false, false, false, false, false, false, false] (by kernel_rfl) rfl rfl ⟨(blk_cell BK348.out 0).trans rfl, (blk_cell BK348.out 1).trans rfl, (blk_cell BK348.out 2).trans rfl, (blk_cell BK348.out 3).trans rfl, (blk_cell BK349.out 0).trans rfl, (blk_cell BK349.out 1).trans rfl, (blk_cell BK349.out 2).trans rfl, (blk_cell BK349.out 3).trans rfl, ((HB.out.cell (World.block_lt_of_cell? w _ hw350_0)).trans hw350_0), ((HB.out.cell (World.block_lt_of_cell? w _ hw350_1)).trans hw350_1), ((HB.out.cell (World.block_lt_of_cell? w _ hw350_2)).trans hw350_2), ((HB.out.cell (World.block_lt_of_cell? w _ hw350_3)).trans hw350_3), ((HB.out.cell (World.block_lt_of_cell? w _ hw351_0)).trans hw351_0), ((HB.out.cell (World.block_lt_of_cell? w _ hw351_1)).trans hw351_1), ((HB.out.cell (World.block_lt_of_cell? w _ hw351_2)).trans hw351_2), ((HB.out.cell (World.block_lt_of_cell? w _ hw351_3)).trans hw351_3)⟩ (fun hHeld => ?_); refine with_tabW marginaliaref05_Same.tab6 marginaliaref05_Same.bits6 (fun HT_ HW_ => ?_); generalize wr.drew = w29 at BK348 BK349 HB HR350_3 HR351_3 hx350_0 hx350_1 hx350_2 hx350_3 hx351_0 hx351_1 hx351_2 hx351_3 hHeld ⊢; refine zp 0 34 HT_ ?_; refine zp 2 36 HT_ ?_; refine zp 5 39 HT_ ?_; refine zp 7 41 HT_ ?_; refine zy 1 35 HT_ HW_ hHeld ?_; refine zp 3 37 HT_ ?_; refine zy 4 38 HT_ HW_ hHeld ?_; refine zy 6 40 HT_ HW_ hHeld ?_; refine zp 8 42 HT_ ?_; refine zy 9 43 HT_ HW_ hHeld ?_; refine one_ (i := 10) (N := some 44) #[true, true, true, true, true, true, true, true, true, true, true, false] rfl rfl (one_of HT_.out (by kernel_rfl)) (by decide) (fun K hK => ?_); refine goes_ Try.func37 (by kernel_rfl) rfl #[.agg #[.int .i64 ((rd_T26 l0_3 x5_2).f0), .int .i64 ((rd_T26 l0_3 x5_2).f1.f0), .string ((rd_T26 l0_3 x5_2).f1.f1), .slice A350_3 ((rd_T26 l0_3 x5_2).f2).length c350_3], .agg #[.int .i64 ((rd_T26 l1_3 x5_2).f0), .int .i64 ((rd_T26 l1_3 x5_2).f1.f0), .string ((rd_T26 l1_3 x5_2).f1.f1), .slice A351_3 ((rd_T26 l1_3 x5_2).f2).length c351_3]] (by rfl) rfl rfl (by (try simp only [List.map_toArray, List.map_cons, List.map_nil]); first | done | rfl | (simp only [List.length_drop, List.length_take]; rfl)) ?_
        with_reducible refine (ih k2 (by have := HJ2.out; have := HK2.out; omega) ((rd_T26 l0_3 x5_2).f0) ((rd_T26 l0_3 x5_2).f1.f0) ((rd_T26 l0_3 x5_2).f1.f1) _ _ ((rd_T26 l0_3 x5_2).f2) ((rd_T26 l1_3 x5_2).f0) ((rd_T26 l1_3 x5_2).f1.f0) ((rd_T26 l1_3 x5_2).f1.f1) _ _ ((rd_T26 l1_3 x5_2).f2) false _ ?side1 ?side2 ?side3 ?side4 A21.out).mono ?_
        (case side1 => exact zC HR350_3)
        (case side2 => exact HC350_3.out)
        (case side3 => exact zC HR351_3)
        (case side4 => exact HC351_3.out)
        rintro e w30 ⟨rfl, hb⟩; refine ⟨_, rfl, ?_⟩
        replace BK348 := (zK BK348 hb)
        replace BK349 := (zK BK349 hb)
        replace HB := (zB hb)
        (try clear hb)
        (try clear hb2)
        (try clear hk)
        (try clear hi)
        refine hK.out _ _ ⟨(blk_cell BK348.out 0).trans rfl, (blk_cell BK348.out 1).trans rfl, (blk_cell BK348.out 2).trans rfl, (blk_cell BK348.out 3).trans rfl, (blk_cell BK349.out 0).trans rfl, (blk_cell BK349.out 1).trans rfl, (blk_cell BK349.out 2).trans rfl, (blk_cell BK349.out 3).trans rfl, ((HB.out.cell (World.block_lt_of_cell? w _ hw350_0)).trans hw350_0), ((HB.out.cell (World.block_lt_of_cell? w _ hw350_1)).trans hw350_1), ((HB.out.cell (World.block_lt_of_cell? w _ hw350_2)).trans hw350_2), ((HB.out.cell (World.block_lt_of_cell? w _ hw350_3)).trans hw350_3), ((HB.out.cell (World.block_lt_of_cell? w _ hw351_0)).trans hw351_0), ((HB.out.cell (World.block_lt_of_cell? w _ hw351_1)).trans hw351_1), ((HB.out.cell (World.block_lt_of_cell? w _ hw351_2)).trans hw351_2), ((HB.out.cell (World.block_lt_of_cell? w _ hw351_3)).trans hw351_3)⟩ (fun hHeld => ?_); clear hK K; refine norm_ (a' := ?_) ?_ ?_; rotate_left
        ·show Act.put _ (some 44) _ = _
         simp only [Act.put, List.setIfInBounds_toArray, List.set_cons_zero, List.set_cons_succ, i64_w, i32_w]; rfl
        refine zp 11 45 HT_ ?_; refine done_ (done_of HT_.out (by kernel_rfl)) ?_
        try go_wp2
        go_ret; exact ⟨zr, zb⟩
      ·rw [if_neg c18] at H; have c18b0 := decide_eq_false c18; clear c18; obtain rfl := Option.some.inj H; have hnb31 := NB348_349.out; have hnc31 := NB349_348.out; obtain ⟨hcz32_0, hcz32_1, hcz32_2, hcz32_3⟩ := zc4 BK348; obtain ⟨hfz32_0, hfz32_1, hfz32_2, hfz32_3⟩ := zz4 BK348; go_wp2; go_ret; exact ⟨zr, zb⟩

end Go.Proofs.Ytnafnieocpkkhaa.P

namespace Go.Proofs.Ytnafnieocpkkhaa.P
open Go.RowKit Go.Proofs.YtnafnieocpkkhaaW.PrintWords Go.Proofs.YtnafnieocpkkhaaW.PrintLast Go.Proofs.YtnafnieocpkkhaaW.PrintMore
attribute [local go_sem] max2_int min2_int max_two min_two max_three min_three max_four min_four
set_option linter.unusedVariables false
set_option linter.unusedSimpArgs false

def marginalialaw05_short.f (l0 : List Int) : Option (List Int) := some (l0.take 40)
theorem marginalialaw05_short.lit {W : World} {base e : Nat} (hbase : base ≤ W.heap.size) : Kd.R (Kd.int .i64) e (W.alloc (.cells #[] e)) base (fun _ => True) (.slice (some ⟨W.heap.size, 0, none⟩) 0 0) [] := by
 refine ⟨fun _ _ => trivial, [], ?_, Reps.none _ _⟩; have h2 := World.ownsRow_lit (base := base) (e := e) (size := 1) W #[] 0 hbase (by unfold maxLen; omega) (by simp)
 have h3 : (W.alloc (Obj.cells #[] e)).ownsRow base e 1 (Value.slice (some { block := W.heap.size, off := 0 }) 0 0) 0 [] := (by simpa using h2)
 exact h3
theorem marginalialaw05_short.info : (Try.prog.info? 3).map (fun i => (i.zero, i.size, i.bytes)) = some (some (.int .i64 0), 1, 8) := by kernel_rfl
set_option maxHeartbeats 4000000 in
set_option maxRecDepth 100000 in
theorem marginalialaw05_short.calls (A0 : Option Addr) (c0 : Nat) (l0 : List Int) (r : List Int) (w : World) (hr0 : Kd.C (Kd.int .i64) w A0 l0.length l0) (hc0 : l0.length ≤ c0) (h : marginalialaw05_short.f l0 = some r) :
  Calls Try.prog 45 #[.slice A0 l0.length c0] w fun e w' => ∃ v0_ : Value, e = .returned (v0_) ∧ Kd.R (Kd.int .i64) 3 w' w.heap.size (fun _ => True) v0_ r ∧ Below w.heap.size w w' := by
 have hu := Try.underlying30; injection h with h; subst h; have hE := Aside0.mk (marginalialaw05_short.lit (W := w) (base := w.heap.size) (e := 3) (Nat.le_refl _)); have hA := Aside0.mk (below_alloc (Below.refl w.heap.size w) (.cells #[] 3)); have hC := Aside0.mk (Kd.C_below (Kd.C_take hr0 (m := min 40 l0.length) (by omega)) hA.out)
 have htk : l0.take (min 40 l0.length) = l0.take 40 := (by rw [← List.take_take, List.take_length])
 rw [htk] at hC; have htl : (l0.take 40).length = min 40 l0.length := List.length_take; rw [htl] at hC; clear hr0 htk
 rcases Nat.lt_or_ge 40 l0.length with hlt | hle
 ·have e1 : min 40 l0.length = 40 := (by omega)
  rw [e1] at hC htl
  have h40 : (40 : Int) < (l0.length : Int) := (by omega)
  have h41 : (40 : Int) ≤ (c0 : Int) := (by omega)
  have h42 : min (l0.length : Int) 40 = 40 := (by omega)
  have HTL := Aside0.mk htl; clear e1 htl hlt; go_enter Try.func45, Try.ntmps45
  go_wp2_with (first | (at_builtin; refine Kd.R_append_rows (Kd.int .i64) (w0 := w) w.heap.size rfl (.tmp 3) (.tmp 8) 30 3 (.int .i64 0) 8 rfl hu marginalialaw05_short.info rfl (show 0 < 1 by decide) (by omega) (.slice (some ⟨w.heap.size, 0, none⟩) 0 0) [] (l0.take 40) A0 40 c0 (fun _ => True) (fun _ => False) rfl rfl hE.out hC.out (fun x cs h => h) (fun _ hk => hk.elim) (fun _ _ => trivial) hA.out hA.out.size (show (([] : List Int).length + 40) * 8 ≤ 140737488355328 by decide) ?_; intro v1 w1 hr hb hg hat; have HR := Aside0.mk hr; have HB2 := Aside0.mk hb; clear hr hb hg hat))
  go_ret; exact ⟨_, rfl, by simpa using HR.out, HB2.out⟩
 ·have e1 : min 40 l0.length = l0.length := (by omega)
  rw [e1] at hC htl; have e2 : l0.take 40 = l0 := List.take_of_length_le hle; rw [e2] at hC ⊢
  have h40 : ¬ (40 : Int) < (l0.length : Int) := (by omega)
  have h41 : (l0.length : Int) ≤ (c0 : Int) := (by omega)
  have h42 : min (l0.length : Int) 40 = (l0.length : Int) := (by omega)
  clear e1 htl e2; go_enter Try.func45, Try.ntmps45
  go_wp2_with (first | (at_builtin; refine Kd.R_append_rows (Kd.int .i64) (w0 := w) w.heap.size rfl (.tmp 3) (.tmp 8) 30 3 (.int .i64 0) 8 rfl hu marginalialaw05_short.info rfl (show 0 < 1 by decide) (by omega) (.slice (some ⟨w.heap.size, 0, none⟩) 0 0) [] l0 A0 l0.length c0 (fun _ => True) (fun _ => False) rfl rfl hE.out hC.out (fun x cs h => h) (fun _ hk => hk.elim) (fun _ _ => trivial) hA.out hA.out.size (show (([] : List Int).length + l0.length) * 8 ≤ 140737488355328 by rw [List.length_nil]; omega) ?_; intro v1 w1 hr hb hg hat; have HR := Aside0.mk hr; have HB2 := Aside0.mk hb; clear hr hb hg hat))
  go_ret; exact ⟨_, rfl, by simpa using HR.out, HB2.out⟩

end Go.Proofs.Ytnafnieocpkkhaa.P

set_option linter.unusedVariables false
set_option linter.unusedSimpArgs false
namespace Go.Proofs.Ytnafnieocpkkhaa.P
open Go.RowKit Go.Proofs.YtnafnieocpkkhaaW.PrintWords Go.Proofs.YtnafnieocpkkhaaW.PrintLast Go.Proofs.YtnafnieocpkkhaaW.PrintMore
/-! ### Same -/
theorem rsame_loop (a b : Nd) (hl : a.f2.length = b.f2.length) (hz : a.f2.length < 1000000) : ∀ (r : List Nd) (i : Nat), a.f2.drop i = r → (∀ x ∈ r, ∀ y : Nd, ∃ t, Ev (fun k => marginaliaref05_Same.f k x.f0 x.f1.f0 x.f1.f1 x.f2 y.f0 y.f1.f0 y.f1.f1 y.f2) t ∧ (t = true ↔ x = y)) →
  ∃ t, Ev (fun k => marginaliaref05_Same.l0 k (i : Int) a.f0 a.f1.f0 a.f1.f1 a.f2 b.f0 b.f1.f0 b.f1.f1 b.f2) t ∧ (t = true ↔ r = b.f2.drop i) := by
 intro r
 induction r with
 | nil =>
  intro i hd hx; have hle := le_of_nil hd; refine ⟨true, Ev.shift ?_, ?_⟩
  ·simp only [marginaliaref05_Same.l0]; exact Ev.neg (by omega) (Ev.now _)
  ·rw [List.drop_of_length_le (by omega)]
   simp
 | cons e r ih =>
  intro i hd hx; have hlt := lt_of_drop hd
  have hlt2 : i < b.f2.length := (by omega)
  obtain ⟨t, h1, h2⟩ := hx e List.mem_cons_self (b.f2[i]'hlt2); have hb : b.f2.drop i = b.f2[i]'hlt2 :: b.f2.drop (i + 1) := List.drop_eq_getElem_cons hlt2; obtain ⟨t2, h3, h4⟩ := ih (i + 1) (drop_next hd) (fun x hm => hx x (List.mem_cons_of_mem _ hm)); have hrb := rd_nd hb; by_cases ht : t = true
  ·refine ⟨t2, Ev.shift ?_, ?_⟩
   ·simp only [marginaliaref05_Same.l0]; rw [rd_nd hd, hrb, w64 (n := (i : Int) + 1) (by omega) (by omega)]; refine Ev.pos (by omega) (Ev.pos (by omega) (Ev.pos (by omega) (Ev.bind h1 (Ev.pos ht ?_))))
    exact_mod_cast h3
   ·rw [h4, hb]; have := h2.1 ht
    constructor
    ·intro h; rw [this, h]
    ·intro h; injection h
  ·refine ⟨false, Ev.shift ?_, ?_⟩
   ·simp only [marginaliaref05_Same.l0]; rw [rd_nd hd, hrb, w64 (n := (i : Int) + 1) (by omega) (by omega)]; exact Ev.pos (by omega) (Ev.pos (by omega) (Ev.pos (by omega) (Ev.bind h1 (Ev.neg ht (Ev.now _)))))
   ·constructor
    ·intro h; cases h
    ·intro h; rw [hb] at h; injection h with h; exact absurd (h2.2 h) ht
theorem bytes_toList {a b : ByteArray} (h : a.toList = b.toList) : a = b := by
 rw [Lib.toList_data, Lib.toList_data] at h
 cases a; cases b
 congr 1
 exact Array.ext' h
theorem rsame_ev : ∀ a : Nd, sm a → ∀ b : Nd, ∃ t, Ev (fun k => marginaliaref05_Same.f k a.f0 a.f1.f0 a.f1.f1 a.f2 b.f0 b.f1.f0 b.f1.f1 b.f2) t ∧ (t = true ↔ a = b) := by
 refine Nd.ind ?_; intro a ih hs b
 have no : ¬ a = b → Ev (fun k => marginaliaref05_Same.j0 k true a.f0 a.f1.f0 a.f1.f1 a.f2 b.f0 b.f1.f0 b.f1.f1 b.f2) false := fun _ => by
  refine Ev.shift ?_; simp only [marginaliaref05_Same.j0]; exact Ev.pos trivial (Ev.now _)
 have fin : ∀ {g : Nat → Option Bool}, ¬ a = b → Ev g false → ∃ t, Ev g t ∧ (t = true ↔ a = b) := fun h e => ⟨false, e, by simp [h]⟩
 by_cases h0 : a.f0 = b.f0
 ·by_cases h1 : a.f1.f0 = b.f1.f0
  ·by_cases h2 : a.f1.f1 = b.f1.f1
   ·have e1 : (!(a.f1.f0 == b.f1.f0) || (!(a.f1.f1.toList == b.f1.f1.toList))) = false := (by rw [h1, h2]; simp)
    by_cases h3 : a.f2.length = b.f2.length
    ·obtain ⟨t, q1, q2⟩ := rsame_loop a b h3 hs.len a.f2 0 rfl (fun x hx y => ih x hx (hs.kid hx) y); refine ⟨t, Ev.shift ?_, ?_⟩
     ·simp only [marginaliaref05_Same.f]; refine Ev.pos h0 (Ev.neg (by rw [e1]; decide) (Ev.shift ?_)); simp only [marginaliaref05_Same.j0]; exact Ev.neg (by rw [h3]; simp) q1
     ·rw [q2, List.drop_zero]
      constructor
      ·intro h
       cases a with
       | mk x y z => cases b with
        | mk x' y' z' =>
         cases y; cases y'
         simp only at h0 h1 h2 h; subst h0 h1 h2 h; rfl
      ·intro h; rw [h]
    ·have hn : ¬ a = b := fun h => h3 (by rw [h])
     refine fin hn (Ev.shift ?_); simp only [marginaliaref05_Same.f]; refine Ev.pos h0 (Ev.neg (by rw [e1]; decide) ?_); rw [show ((a.f2.length : Int) != (b.f2.length : Int)) = true by simp; omega]; exact no hn
   ·have hn : ¬ a = b := fun h => h2 (by rw [h])
    refine fin hn (Ev.shift ?_); simp only [marginaliaref05_Same.f]; refine Ev.pos h0 (Ev.pos ?_ (no hn)); rw [Bool.or_eq_true]
    right
    simp only [Bool.not_eq_true', beq_eq_false_iff_ne, ne_eq]
    exact fun h => h2 (bytes_toList h)
  ·have hn : ¬ a = b := fun h => h1 (by rw [h])
   refine fin hn (Ev.shift ?_); simp only [marginaliaref05_Same.f]; refine Ev.pos h0 (Ev.pos ?_ (no hn)); rw [Bool.or_eq_true]
   left
   simpa using h1
 ·have hn : ¬ a = b := fun h => h0 (by rw [h])
  refine fin hn (Ev.shift ?_); simp only [marginaliaref05_Same.f]; exact Ev.neg h0 (no hn)
theorem rsame_refl (a : Nd) (hs : sm a) : Ev (fun k => marginaliaref05_Same.f k a.f0 a.f1.f0 a.f1.f1 a.f2 a.f0 a.f1.f0 a.f1.f1 a.f2) true := by
 obtain ⟨t, h1, h2⟩ := rsame_ev a hs a; rw [h2.2 rfl] at h1; exact h1
/-! ### Put -/
def putp : List Int → Nd → Nd → Nd
 | [], _, b => b
 | i :: p, n, b => match n.f2[i.toNat]? with
  | some x => ⟨n.f0, n.f1, n.f2.set i.toNat (putp p x b)⟩
  | none => n
theorem sum_set {f : Nd → Nat} {y : Nd} : ∀ {l : List Nd} {i : Nat} {x : Nd}, l[i]? = some x → ((l.set i y).map f).sum + f x = (l.map f).sum + f y := by
 intro l
 induction l with
 | nil => intro i x h; simp at h
 | cons a r ih =>
  intro i x h
  cases i with
  | zero =>
   simp only [List.getElem?_cons_zero, Option.some.injEq] at h; subst h
   simp
   omega
  | succ i =>
   simp only [List.getElem?_cons_succ] at h; have := ih h; simp only [List.set_cons_succ, List.map_cons, List.sum_cons]
   omega
theorem putp_nd (b : Nd) : ∀ (p : List Int) (n : Nd), nd (putp p n b) ≤ nd n + nd b := by
 intro p
 induction p with
 | nil => intro n; rw [putp]; omega
 | cons i p ih =>
  intro n; rw [putp]
  cases h : n.f2[i.toNat]? with
  | none => simp
  | some x =>
   have h1 := sum_set (f := nd) (y := putp p x b) h; have h2 := ih x; have h3 := nd_eq (⟨n.f0, n.f1, n.f2.set i.toNat (putp p x b)⟩ : Nd); have h4 := nd_eq n; simp only at h3 ⊢
   omega
theorem putp_wd (b : Nd) : ∀ (p : List Int) (n : Nd), wd (putp p n b) ≤ wd n + wd b := by
 intro p
 induction p with
 | nil => intro n; rw [putp]; omega
 | cons i p ih =>
  intro n; rw [putp]
  cases h : n.f2[i.toNat]? with
  | none => simp
  | some x =>
   have h1 := sum_set (f := wd) (y := putp p x b) h; have h2 := ih x; have h3 := wd_eq (⟨n.f0, n.f1, n.f2.set i.toNat (putp p x b)⟩ : Nd); have h4 := wd_eq n; simp only at h3 ⊢
   omega
theorem put_go (b : Nd) : ∀ (p : List Int) (n : Nd), sm n → (atp p n).isSome = true → tree_put.go p n b = some (putp p n b) := by
 intro p
 induction p with
 | nil => intro n _ _; rfl
 | cons i p ih =>
  intro n hs h; rw [atp] at h
  split at h
  ·rename_i h0
   cases e : n.f2[i.toNat]? with
   | none => rw [e] at h; cases h
   | some x =>
    rw [e, Option.bind_some, Option.isSome_map] at h; rw [tree_put.go, if_pos hs.len, if_pos h0, e, Option.bind_some, ih x (hs.kid (List.mem_of_getElem? e)) h, putp, e]; rfl
  ·cases h
/-- What Put answers. -/
def putans (m x : Nd) (p : List Int) : Nd × Int :=
 if fmd m = true ∧ fmd x = true then (if (atp p m).isSome = true then (if fmd (putp p m x) = true then (putp p m x, 0) else (⟨0, ⟨0, ⟨#[]⟩⟩, []⟩, 4)) else (⟨0, ⟨0, ⟨#[]⟩⟩, []⟩, 2)) else (⟨0, ⟨0, ⟨#[]⟩⟩, []⟩, 4)
theorem Put_ev (m x : Nd) (p : List Int) (hm : sm m) (hx : sm x) (hmx : wd m + wd x ≤ 1000000000 ∧ nd m + nd x ≤ 1000000) (hp : p.length ≤ 1000000000) :
  Ev (fun k => tree_Put.f k m.f0 m.f1.f0 m.f1.f1 m.f2 p x.f0 x.f1.f0 x.f1.f1 x.f2) ((putans m x p).1.f0, (putans m x p).1.f1.f0, (putans m x p).1.f1.f1, (putans m x p).1.f2, (putans m x p).2) := by
 unfold tree_Put.f putans; refine Ev.bind (IsFormed_ev m hm) ?_; by_cases h1 : fmd m = true
 ·refine Ev.pos h1 (Ev.bind (IsFormed_ev x hx) ?_); by_cases h2 : fmd x = true
  ·rw [if_pos ⟨h1, h2⟩]; refine Ev.pos h2 (Ev.bind (at_ev m p hm hp) ?_); by_cases h3 : (atp p m).isSome = true
   ·rw [if_pos h3]; have hg := put_go x p m hm h3; obtain ⟨z, hz⟩ := Option.isSome_iff_exists.1 h3
    have e1 : (ans 0 (atp p m)).2.2.2.2.2 = true := (by rw [hz]; rfl)
    refine Ev.pos e1 ?_
    have e2 : tree_put.f m.f0 m.f1.f0 m.f1.f1 m.f2 p x.f0 x.f1.f0 x.f1.f1 x.f2 = some ((putp p m x).f0, (putp p m x).f1.f0, (putp p m x).f1.f1, (putp p m x).f2) := by
     unfold tree_put.f; rw [Nd.eta, Nd.eta, hg]; rfl
    refine Ev.bind1 e2 ?_; have hw := putp_wd x p m; have hn := putp_nd x p m
    have hsp : sm (putp p m x) := ⟨by omega, by omega⟩
    refine Ev.bind (IsFormed_ev _ hsp) ?_; by_cases h4 : fmd (putp p m x) = true
    ·rw [if_pos h4]; exact Ev.pos h4 (Ev.bind (clone_ev _ hsp) (Ev.now _))
    ·rw [if_neg h4]; exact Ev.neg h4 (Ev.now _)
   ·rw [if_neg h3]
    have e1 : ¬ (ans 0 (atp p m)).2.2.2.2.2 = true := by
     cases hz : atp p m with
     | none => intro h; cases h
     | some z => rw [hz] at h3; exact absurd rfl h3
    exact Ev.neg e1 (Ev.now _)
  ·rw [if_neg (fun h => h2 h.2)]; exact Ev.neg h2 (Ev.now _)
 ·rw [if_neg (fun h => h1 h.1)]; exact Ev.neg h1 (Ev.now _)
end Go.Proofs.Ytnafnieocpkkhaa.P

set_option linter.unusedVariables false
set_option linter.unusedSimpArgs false
namespace Go.Proofs.Ytnafnieocpkkhaa.P
open Go Go.RowKit Go.Proofs.Ytnafnieocpkkhaa Go.Proofs.YtnafnieocpkkhaaW.PrintWords Go.Proofs.YtnafnieocpkkhaaW.PrintLast Go.Proofs.YtnafnieocpkkhaaW.PrintMore
theorem u64_wrap (n : Int) : IntKind.u64.wrap n = n % 18446744073709551616 := by
 simp [IntKind.wrap, IntKind.signed, IntKind.bits]
theorem position_loop (l : List Int) (hl : l.length ≤ 1000) : ∀ (r i : Nat) (acc : List Int) (n : Nd), i + r = l.length → sm n → acc.length ≤ i →
  ∃ p, Ev (fun k => marginalialaw05_position.l0 k l acc (i : Int) n.f0 n.f1.f0 n.f1.f1 n.f2) (acc ++ p) ∧ (atp p n).isSome = true ∧ p.length ≤ r
 | 0, i, acc, n, h, hs, ha => by
  refine ⟨[], ?_, rfl, by simp⟩; rw [List.append_nil]; refine Ev.shift ?_; simp only [marginalialaw05_position.l0]; exact Ev.neg (by omega) (Ev.now _)
 | r + 1, i, acc, n, h, hs, ha => by
  have hz := hs.len; by_cases h0 : n.f2.length = 0
  ·refine ⟨[], ?_, rfl, by simp⟩; rw [List.append_nil]; refine Ev.shift ?_; simp only [marginalialaw05_position.l0]; exact Ev.pos (by omega) (Ev.neg (by omega) (Ev.now _))
  ·have e1 : IntKind.u64.wrap (n.f2.length : Int) = (n.f2.length : Int) := (by rw [u64_wrap]; omega)
   obtain ⟨z, hz1⟩ : ∃ z, z = Int.tmod (IntKind.u64.wrap (rd l (i : Int))) (n.f2.length : Int) := ⟨_, rfl⟩
   have hz2 : 0 ≤ z ∧ z < (n.f2.length : Int) := by
    have h1 : 0 ≤ IntKind.u64.wrap (rd l (i : Int)) := (by rw [u64_wrap]; omega)
    rw [Int.tmod_eq_emod_of_nonneg h1] at hz1; have h2 := Int.emod_nonneg (IntKind.u64.wrap (rd l (i : Int))) (show (n.f2.length : Int) ≠ 0 by omega); have h3 := Int.emod_lt_of_pos (IntKind.u64.wrap (rd l (i : Int))) (show 0 < (n.f2.length : Int) by omega)
    omega
   obtain ⟨j, rfl⟩ : ∃ j : Nat, z = (j : Int) := ⟨z.toNat, by omega⟩
   obtain ⟨x, hx⟩ : ∃ x, n.f2[j]? = some x := ⟨_, List.getElem?_eq_getElem (by omega)⟩
   obtain ⟨p, h1, h2, h3⟩ := position_loop l hl r (i + 1) (acc ++ [(j : Int)]) x (by omega) (hs.kid (List.mem_of_getElem? hx)) (by simp; omega); refine ⟨(j : Int) :: p, ?_, ?_, by simp; omega⟩
   ·refine Ev.shift ?_; simp only [marginalialaw05_position.l0]; rw [e1, ← hz1, w64 (n := (j : Int)) (by omega) (by omega), w64 (n := (i : Int) + 1) (by omega) (by omega), rd_at hx]; rw [List.append_assoc] at h1; exact Ev.pos (by omega) (Ev.pos (by omega) (Ev.pos (by omega) (Ev.neg (by omega) (Ev.pos (by omega) (Ev.pos (by omega) (Ev.pos (by omega) (by exact_mod_cast h1)))))))
   ·rw [atp, if_pos (by omega), Int.toNat_natCast, hx, Option.bind_some, Option.isSome_map]; exact h2
theorem position_ev (n : Nd) (l : List Int) (hs : sm n) (hl : l.length ≤ 1000) : ∃ p, Ev (fun k => marginalialaw05_position.f k n.f0 n.f1.f0 n.f1.f1 n.f2 l) p ∧ (atp p n).isSome = true ∧ p.length ≤ 1000 := by
 obtain ⟨p, h1, h2, h3⟩ := position_loop l hl l.length 0 [] n (by omega) hs (Nat.le_refl _); exact ⟨p, h1, h2, by omega⟩
end Go.Proofs.Ytnafnieocpkkhaa.P

namespace Go.Proofs.Ytnafnieocpkkhaa.P
open Go.RowKit Go.Proofs.YtnafnieocpkkhaaW.PrintWords Go.Proofs.YtnafnieocpkkhaaW.PrintLast Go.Proofs.YtnafnieocpkkhaaW.PrintMore
attribute [local go_sem] max2_int min2_int max_two min_two max_three min_three max_four min_four
set_option linter.unusedVariables false
set_option linter.unusedSimpArgs false

def tree_text.all (g : S26 → List UInt8 → Option (List UInt8)) : List (S26) → List UInt8 → Option (List UInt8)
 | [], acc => some acc
 | x :: r, acc => (g x acc).bind fun a => tree_text.all g r a
def tree_text.go : Nat → S26 → List UInt8 → Option (List UInt8)
 | 0, _, _ => none
 | k + 1, n, acc => if acc.length + n.f1.f1.size ≤ 140737488355328 then tree_text.all (tree_text.go k) n.f2 (acc ++ n.f1.f1.data.toList) else none
def tree_text.f (k : Nat) (a0_0 : Int) (a0_1 : Int) (a0_2 : ByteArray) (l0_3 : List (S26)) : Option (ByteArray) := (tree_text.go k ⟨a0_0, ⟨a0_1, a0_2⟩, l0_3⟩ []).bind fun l => some ⟨l.toArray⟩
def tree_text.Holds (k : Nat) (w0 : World) (b : Nat) : Prop := ∀ (n : S26) (A : Option Addr) (cc : Nat) (acc r : List UInt8) (w : World), n.f2.length ≤ cc → Kd.C k26 w0 A n.f2.length n.f2 → Below w0.heap.size w0 w → Bld.IsB w0.heap.size b acc w → tree_text.go k n acc = some r →
 Calls Try.prog 83 #[.pointer (some ⟨b, 0, none⟩), .agg #[.int .i64 n.f0, .int .i64 n.f1.f0, .string n.f1.f1, .slice A n.f2.length cc]] w fun e w' => e = .returned (.tuple #[]) ∧ Bld.IsB w0.heap.size b r w' ∧ Below w0.heap.size w0 w'
set_option maxHeartbeats 8000000 in
set_option maxRecDepth 100000 in
theorem tree_text.write_ok (w0 : World) (b : Nat) : ∀ k, tree_text.Holds k w0 b := by
 have hu := Try.underlying26; have hu2 := Try.underlying23; intro k
 induction k with
 | zero =>
  intro n A cc acc r w hcc hC hB hI h
  simp [tree_text.go] at h
 | succ k ih =>
  intro n A cc acc r w hcc hC hB hI h; rw [tree_text.go] at h; obtain ⟨hlen, h⟩ := Ut.ite_some h; have HH := Aside0.mk h; have HC := Aside0.mk hC; have IH := Aside0.mk ih; have hmax : n.f2.length ≤ 9223372036854775807 := hC.2.1; have HB := Aside0.mk (below_alloc hB (.cells #[.int .i64 n.f0, .int .i64 n.f1.f0, .string n.f1.f1, .slice A n.f2.length cc] 26)); have HI := Aside0.mk (hI.alloc (.cells #[.int .i64 n.f0, .int .i64 n.f1.f0, .string n.f1.f1, .slice A n.f2.length cc] 26)); have HO := Aside0.mk (blk_new w (.cells #[.int .i64 n.f0, .int .i64 n.f1.f0, .string n.f1.f1, .slice A n.f2.length cc] 26)); have hbl := hI.lt; have HNE := Aside0.mk (show w.heap.size ≠ b by omega); clear h hC ih hB hI hbl; go_enter Try.func83, Try.ntmps83
  go_wp2_with (go_at_call 92; refine (Bld.write w0.heap.size b acc n.f1.f1 _ HI.out hlen (below_size HB.out)).mono ?_; rintro e w1 ⟨rfl, hI1, hb1, hk1⟩; have HI1 := Aside0.mk hI1; have HB1 := Aside0.mk (HB.out.trans hb1); have z3 : w1.cell? ⟨w.heap.size, 3, none⟩ = some (.slice A n.f2.length cc) := Lib.cell_of_heap (hk1 _ _ HO.out (fun e => HNE.out (Option.some.inj e)) (by intro c fz e; injection e with _ e2; exact absurd e2 (by decide))) 3; clear hI1 hb1 hk1)
  go_loopg [14] n.f2.length (fun kq v14 w' => ∃ (i : Nat) (ac : List UInt8), v14 = .int .i64 (i : Int) ∧ Aside0 (i + kq = n.f2.length) ∧ Aside0 (tree_text.all (tree_text.go k) (n.f2.drop i) ac = some r) ∧ Aside0 (Bld.IsB w0.heap.size b ac w') ∧ Aside0 (Below w0.heap.size w0 w'))
  case atStart => exact ⟨0, _, rfl, ⟨by omega⟩, HH, HI1, HB1⟩
  case round =>
   clear HH HI HB HI1 HB1 z3; obtain ⟨i, ac, rfl, HK, HH, HI, HB⟩ := hrel; by_cases hlt : i < n.f2.length
   ·have hd1 : decide ((i : Int) < (n.f2.length : Int)) = true := decide_eq_true (by omega); have H := HH.out; rw [List.drop_eq_getElem_cons hlt] at H; simp only [tree_text.all] at H; obtain ⟨a, ha, Hn⟩ := Option.bind_eq_some_iff.mp H; clear H
    have hrd : rd_T26 n.f2 (i : Int) = n.f2[i] := (by simp [rd_T26, hlt])
    obtain ⟨ad, A3, c3, e, hx0, hx1, hx2, hx3, hl3, hC3⟩ := at_T26 HC.out (i : Int) (by omega) (by omega); rw [hrd] at hx0 hx1 hx2 hx3 hl3 hC3; rw [Int.toNat_natCast] at hx0 hx1 hx2 hx3
    cases e
    replace hx0 := (HB.out.cell (World.block_lt_of_cell? w0 _ hx0)).trans hx0; replace hx1 := (HB.out.cell (World.block_lt_of_cell? w0 _ hx1)).trans hx1; replace hx2 := (HB.out.cell (World.block_lt_of_cell? w0 _ hx2)).trans hx2; replace hx3 := (HB.out.cell (World.block_lt_of_cell? w0 _ hx3)).trans hx3; clear hrd HH; generalize n.f2[i] = x at *; have HCall := Aside0.mk (IH.out x A3 c3 ac a (wr.alloc (.cells #[.int .i64 x.f0, .int .i64 x.f1.f0, .string x.f1.f1, .slice A3 x.f2.length c3] 26)) hl3 hC3 (below_alloc HB.out _) (HI.out.alloc _) ha); have HH2 := Aside0.mk Hn; clear Hn ha hl3 hC3
    cases gk with
    | zero => exact absurd hlt (by have := HK.out; omega)
    | succ kq' =>
    go_wp2_with (go_at_call 83; refine HCall.out.mono ?_; rintro e w2 ⟨rfl, h1, h2⟩; have H1 := Aside0.mk h1; have H2 := Aside0.mk h2; clear h1 h2)
    go_roundg kq'
    case measure => omega
    case rel => exact ⟨i + 1, _, by go_num, ⟨by have := HK.out; omega⟩, HH2, H1, H2⟩
   ·have hd1 : decide ((i : Int) < (n.f2.length : Int)) = false := decide_eq_false (by omega); have H := HH.out; rw [List.drop_of_length_le (by have := HK.out; omega)] at H; simp only [tree_text.all, Option.some.injEq] at H; subst H; go_wp2_with fail; go_end0; exact ⟨rfl, HI.out, HB.out⟩
set_option maxHeartbeats 8000000 in
set_option maxRecDepth 100000 in
theorem tree_text.calls (k : Nat) (a0_0 : Int) (a0_1 : Int) (a0_2 : ByteArray) (A0_3 : Option Addr) (c0_3 : Nat) (l0_3 : List (S26)) (r : ByteArray) (w : World) (hr0_3 : Kd.C k26 w A0_3 l0_3.length l0_3) (hc0_3 : l0_3.length ≤ c0_3) (h : tree_text.f k a0_0 a0_1 a0_2 l0_3 = some r) :
  Calls Try.prog 61 #[.agg #[.int .i64 a0_0, .int .i64 a0_1, .string a0_2, .slice A0_3 l0_3.length c0_3]] w fun e w' => e = .returned (.string r) ∧ Below w.heap.size w w' := by
 have hu := Try.underlying26; obtain ⟨l, hl, h⟩ := Option.bind_eq_some_iff.mp h; injection h with h; subst h; have hB := below_alloc (below_alloc (Below.refl w.heap.size w) (.cells #[.int .i64 a0_0, .int .i64 a0_1, .string a0_2, .slice A0_3 l0_3.length c0_3] 26)) (.cells #[.pointer none, .slice none 0 0] 114)
 have hI : Bld.IsB w.heap.size (w.heap.size + 1) [] ((w.alloc (.cells #[.int .i64 a0_0, .int .i64 a0_1, .string a0_2, .slice A0_3 l0_3.length c0_3] 26)).alloc (.cells #[.pointer none, .slice none 0 0] 114)) := by
  have := Bld.IsB.new (B := w.heap.size) (w := w.alloc (.cells #[.int .i64 a0_0, .int .i64 a0_1, .string a0_2, .slice A0_3 l0_3.length c0_3] 26)) (by simp)
  simpa using this
 have HF := Aside0.mk (tree_text.write_ok w (w.heap.size + 1) k ⟨a0_0, ⟨a0_1, a0_2⟩, l0_3⟩ A0_3 c0_3 [] l _ hc0_3 hr0_3 hB hI hl); clear hl hB hI hr0_3; go_enter Try.func61, Try.ntmps61
 go_wp2_with (first | (go_at_call 83; refine HF.out.mono ?_; rintro e w1 ⟨rfl, h1, h2⟩; have HI := Aside0.mk h1; have HB := Aside0.mk h2; clear h1 h2) | (go_at_call 84; refine (Bld.string w.heap.size (w.heap.size + 1) l _ HI.out (below_size HB.out)).mono ?_; rintro e w2 ⟨rfl, hb2⟩; have HB2 := Aside0.mk (HB.out.trans hb2); clear hb2))
 go_ret; exact ⟨rfl, HB2.out⟩

end Go.Proofs.Ytnafnieocpkkhaa.P

namespace Go.Proofs.Ytnafnieocpkkhaa.P
open Go.RowKit Go.Proofs.YtnafnieocpkkhaaW.PrintWords Go.Proofs.YtnafnieocpkkhaaW.PrintLast Go.Proofs.YtnafnieocpkkhaaW.PrintMore
attribute [local go_sem] max2_int min2_int max_two min_two max_three min_three max_four min_four
set_option linter.unusedVariables false
set_option linter.unusedSimpArgs false

/-! ### tree_Text: function 26 -/
def tree_Text.f (k : Nat) (a0_0 : Int) (a0_1 : Int) (a0_2 : ByteArray) (l0_3 : List (S26)) : Option (ByteArray × Int) := (tree_IsFormed.f k a0_0 a0_1 a0_2 l0_3).bind fun t233 => (if t233 = true then ((tree_text.f k a0_0 a0_1 a0_2 l0_3).bind fun t234 => (some (t234, 0))) else (some ((⟨#[]⟩ : ByteArray), 4)))
set_option maxHeartbeats 8000000 in
set_option maxRecDepth 100000 in
theorem tree_Text.calls (k : Nat) (a0_0 : Int) (a0_1 : Int) (a0_2 : ByteArray) (A0_3 : Option Addr) (c0_3 : Nat) (l0_3 : List (S26)) (r1 : ByteArray) (r2 : Int) (w : World) (hr0_3 : Kd.C k26 w A0_3 l0_3.length l0_3) (hc0_3 : l0_3.length ≤ c0_3) (h : tree_Text.f k a0_0 a0_1 a0_2 l0_3 = some (r1, r2)) :
  Calls Try.prog 26 #[.agg #[.int .i64 a0_0, .int .i64 a0_1, .string a0_2, .slice A0_3 l0_3.length c0_3]] w fun e w' => e = .returned (.tuple #[.string r1, .int .i64 r2]) ∧ Below w.heap.size w w' := by
 have hu26 := Try.underlying26; have HR0_3 := Aside0.mk hr0_3; have HC0_3 := Aside0.mk hc0_3; clear hr0_3 hc0_3; have HB := Aside0.mk (Below.refl w.heap.size w); have H : ((tree_IsFormed.f k a0_0 a0_1 a0_2 l0_3).bind fun t233 => (if t233 = true then ((tree_text.f k a0_0 a0_1 a0_2 l0_3).bind fun t234 => (some (t234, 0))) else (some ((⟨#[]⟩ : ByteArray), 4)))) = some (r1, r2) := h; clear h; replace H := zo H; obtain ⟨t233, A2, H⟩ := H; by_cases c3 : t233 = true
 ·subst c3; rw [if_pos rfl] at H; replace H := zo H; obtain ⟨t234, A4, H⟩ := H; simp only [Option.some.injEq, Prod.mk.injEq] at H; obtain ⟨rfl, rfl⟩ := H; go_enter Try.func26, Try.ntmps26
  go_wp2_with (first | ((with_reducible refine zD 1 rfl ?_); refine zx 1 #[.int .i64 a0_0, .int .i64 a0_1, .string a0_2, .slice A0_3 l0_3.length c0_3] 26 ?_; intro gb232 hg w5 hbox hb; have BK232 := Aside0.mk (hbox); have GW232 := (zq hg : Aside0 (w.heap.size ≤ gb232)); have GE232 := GW232; replace HB := (zB hb); clear hb hbox hg; obtain ⟨hcz6_0, hcz6_1, hcz6_2, hcz6_3⟩ := zc4 BK232; obtain ⟨hfz6_0, hfz6_1, hfz6_2, hfz6_3⟩ := zz4 BK232) | ((with_reducible refine zG 30 rfl ?_); refine zg 5 Try.func30 ((tree_IsFormed.calls k a0_0 a0_1 a0_2 _ _ l0_3 true _ ?side1 ?side2 A2.out).mono ?_); (case side1 => exact zC HR0_3); (case side2 => exact HC0_3.out); rintro e w7 ⟨rfl, hb⟩; refine ⟨_, rfl, ?_⟩; replace BK232 := (zK BK232 hb); replace HB := (zB hb); (try clear hb); (try clear hb2); (try clear hk); (try clear hi); obtain ⟨hcz8_0, hcz8_1, hcz8_2, hcz8_3⟩ := zc4 BK232; obtain ⟨hfz8_0, hfz8_1, hfz8_2, hfz8_3⟩ := zz4 BK232) | ((with_reducible refine zG 61 rfl ?_); refine zg 8 Try.func61 ((tree_text.calls k a0_0 a0_1 a0_2 _ _ l0_3 t234 _ ?side1 ?side2 A4.out).mono ?_); (case side1 => exact zC HR0_3); (case side2 => exact HC0_3.out); rintro e w9 ⟨rfl, hb⟩; refine ⟨_, rfl, ?_⟩; replace BK232 := (zK BK232 hb); replace HB := (zB hb); (try clear hb); (try clear hb2); (try clear hk); (try clear hi)))
  go_ret2
  exact ⟨zr, zb⟩
 ·replace c3 := Bool.eq_false_iff.mpr c3; subst c3; replace H := zf H; simp only [Option.some.injEq, Prod.mk.injEq] at H; obtain ⟨rfl, rfl⟩ := H; go_enter Try.func26, Try.ntmps26
  go_wp2_with (first | ((with_reducible refine zD 1 rfl ?_); refine zx 1 #[.int .i64 a0_0, .int .i64 a0_1, .string a0_2, .slice A0_3 l0_3.length c0_3] 26 ?_; intro gb232 hg w10 hbox hb; have BK232 := Aside0.mk (hbox); have GW232 := (zq hg : Aside0 (w.heap.size ≤ gb232)); have GE232 := GW232; replace HB := (zB hb); clear hb hbox hg; obtain ⟨hcz11_0, hcz11_1, hcz11_2, hcz11_3⟩ := zc4 BK232; obtain ⟨hfz11_0, hfz11_1, hfz11_2, hfz11_3⟩ := zz4 BK232) | ((with_reducible refine zG 30 rfl ?_); refine zg 5 Try.func30 ((tree_IsFormed.calls k a0_0 a0_1 a0_2 _ _ l0_3 false _ ?side1 ?side2 A2.out).mono ?_); (case side1 => exact zC HR0_3); (case side2 => exact HC0_3.out); rintro e w12 ⟨rfl, hb⟩; refine ⟨_, rfl, ?_⟩; replace BK232 := (zK BK232 hb); replace HB := (zB hb); (try clear hb); (try clear hb2); (try clear hk); (try clear hi)))
  go_ret2
  exact ⟨zr, zb⟩

/-! ### tree_count: function 64 -/
mutual
def tree_count.l0 : Nat → Int → Int → List (S26) → Int → Int → Option (Int × Int)
 | 0, _, _, _, _, _ => none
 | k + 1, x4, x5, x11, x12, x13 => if x13 < x12 then (if 0 ≤ x13 then (if x13 < (x11.length : Int) then ((tree_count.f k ((rd_T26 x11 x13).f0) ((rd_T26 x11 x13).f1.f0) ((rd_T26 x11 x13).f1.f1) ((rd_T26 x11 x13).f2)).bind fun bt238 => (tree_count.l0 k (wrap64 (x4 + bt238.1)) (mx x5 (wrap64 (bt238.2 + 1))) x11 x12 (wrap64 (x13 + 1)))) else (none)) else (none)) else (some (x4, x5))
def tree_count.f : Nat → Int → Int → ByteArray → List (S26) → Option (Int × Int)
 | 0, _, _, _, _ => none
 | k + 1, a0_0, a0_1, a0_2, l0_3 => tree_count.l0 k 1 0 l0_3 (l0_3.length : Int) 0
end
set_option maxHeartbeats 8000000 in
set_option maxRecDepth 100000 in
theorem tree_count.calls (k : Nat) : ∀ (a0_0 : Int) (a0_1 : Int) (a0_2 : ByteArray) (A0_3 : Option Addr) (c0_3 : Nat) (l0_3 : List (S26)) (r1 : Int) (r2 : Int) (w : World) (hr0_3 : Kd.C k26 w A0_3 l0_3.length l0_3) (hc0_3 : l0_3.length ≤ c0_3) (h : tree_count.f k a0_0 a0_1 a0_2 l0_3 = some (r1, r2)),
  Calls Try.prog 64 #[.agg #[.int .i64 a0_0, .int .i64 a0_1, .string a0_2, .slice A0_3 l0_3.length c0_3]] w fun e w' => e = .returned (.tuple #[.int .i64 r1, .int .i64 r2]) ∧ Below w.heap.size w w' := by
 induction k using Nat.strongRecOn with
 | _ k ih =>
 intro a0_0 a0_1 a0_2 A0_3 c0_3 l0_3 r1 r2 w hr0_3 hc0_3 h
 cases k with
 | zero => exact absurd h (by simp [tree_count.f])
 | succ k =>
 simp only [tree_count.f] at h; have hu26 := Try.underlying26; have HR0_3 := Aside0.mk hr0_3; have HC0_3 := Aside0.mk hc0_3; clear hr0_3 hc0_3; have HB := Aside0.mk (Below.refl w.heap.size w); have H : (tree_count.l0 k 1 0 l0_3 (l0_3.length : Int) 0) = some (r1, r2) := h; clear h; have H' := Aside0.mk H; clear H; go_enter Try.func64, Try.ntmps64
 go_wp2_with (first | ((with_reducible refine zD 1 rfl ?_); refine zx 1 #[.int .i64 a0_0, .int .i64 a0_1, .string a0_2, .slice A0_3 l0_3.length c0_3] 26 ?_; intro gb235 hg w2 hbox hb; have BK235 := Aside0.mk (hbox); have GW235 := (zq hg : Aside0 (w.heap.size ≤ gb235)); have GE235 := GW235; replace HB := (zB hb); clear hb hbox hg; obtain ⟨hcz3_0, hcz3_1, hcz3_2, hcz3_3⟩ := zc4 BK235; obtain ⟨hfz3_0, hfz3_1, hfz3_2, hfz3_3⟩ := zz4 BK235))
 go_loopg [4, 5, 13] k (fun kq v4 v5 v13 w' => ∃ (x4_1 : Int) (x5_1 : Int) (x13_1 : Int), v4 = .int .i64 x4_1 ∧ v5 = .int .i64 x5_1 ∧ v13 = .int .i64 x13_1 ∧ Aside0 (tree_count.l0 kq x4_1 x5_1 l0_3 (l0_3.length : Int) x13_1 = some (r1, r2)) ∧ Aside0 (kq ≤ k) ∧ Aside0 (w'.heap[gb235]? = some (.cells #[.int .i64 a0_0, .int .i64 a0_1, .string a0_2, (.slice A0_3 l0_3.length c0_3)] 26 (0, 0))) ∧ Aside0 (Below w.heap.size w w'))
 case atStart => exact ⟨(1), (0), (0), zs, zs, zs, H', ⟨Nat.le_refl _⟩, (zA BK235), ⟨zb⟩⟩
 case round =>
  clear H'; obtain ⟨x4_1, x5_1, x13_1, rfl, rfl, rfl, HA, HK1, BK235, HB⟩ := hrel
  cases gk with
  | zero => exact absurd HA.out (by simp [tree_count.l0])
  | succ k1 =>
   have H := HA.out; clear HA; simp only [tree_count.l0] at H; by_cases c4 : x13_1 < (l0_3.length : Int)
   ·rw [if_pos c4] at H; have c4b0 := decide_eq_true c4; clear c4; replace H := zi1 H; obtain ⟨c5b0, H⟩ := H; replace H := zi1 H; obtain ⟨c6b0, H⟩ := H; replace H := Option.bind_eq_some_iff.mp H; obtain ⟨⟨t238, t239⟩, A70, H⟩ := H; replace H : (tree_count.l0 k1 (wrap64 (x4_1 + t238)) (mx x5_1 (wrap64 (t239 + 1))) l0_3 (l0_3.length : Int) (wrap64 (x13_1 + 1))) = some (r1, r2) := H; have A7 := Aside0.mk A70; clear A70
    obtain ⟨ji8, hji8⟩ : ∃ j_ : Int, (mx x5_1 (wrap64 (t239 + 1))) = j_ := ⟨_, rfl⟩
    replace H : (tree_count.l0 k1 (wrap64 (x4_1 + t238)) ji8 l0_3 (l0_3.length : Int) (wrap64 (x13_1 + 1))) = some (r1, r2) := by first | (rw [hji8] at H; exact H) | (simp only [hji8] at H ⊢; exact H)
    (try rw [hji8] at A7)
    have hji8_ : (if x5_1 < (wrap64 (t239 + 1)) then (wrap64 (t239 + 1)) else x5_1) = ji8 := hji8; have H' := Aside0.mk H; clear H; have p236 : 0 ≤ (x13_1 : Int) := zt; have q236 : x13_1 < (l0_3.length : Int) := zt; obtain ⟨ad236, A236_3, c236_3, e236, hx236_0, hx236_1, hx236_2, hx236_3, hl236_3, hi236_3⟩ := at_T26 HR0_3.out x13_1 p236 q236
    cases e236
    replace hx236_0 := zh HB hx236_0; replace hx236_1 := zh HB hx236_1; replace hx236_2 := zh HB hx236_2; replace hx236_3 := zh HB hx236_3; have HR236_3 := Aside0.mk hi236_3; have HC236_3 := Aside0.mk hl236_3; clear hi236_3 hl236_3; replace p236 := eq_true p236; replace q236 := eq_true q236
    go_wp2_with (first | ((with_reducible refine zD 7 rfl ?_); refine zx 7 #[.int .i64 0, .int .i64 0, .string (⟨#[]⟩ : ByteArray), .slice none 0 0] 26 ?_; intro gb237 hg w9 hbox hb; have BK237 := Aside0.mk (hbox); have GW237 := (zq hg : Aside0 (w.heap.size ≤ gb237)); have GE237 := GW237; replace HB := (zB hb); have NB235_237 := (zl hg BK235 : Aside0 (gb235 ≠ gb237)); have NB237_235 := (zl' hg BK235 : Aside0 (gb237 ≠ gb235)); replace BK235 := (zK BK235 hb); clear hb hbox hg; have hnb10 := NB237_235.out; have hnc10 := NB235_237.out; obtain ⟨hcz11_0, hcz11_1, hcz11_2, hcz11_3⟩ := zc4 BK237; obtain ⟨hfz11_0, hfz11_1, hfz11_2, hfz11_3⟩ := zz4 BK237) | ((with_reducible refine zG 64 rfl ?_); refine zg 19 Try.func64 ((ih k1 (by have := HK1.out; omega) ((rd_T26 l0_3 x13_1).f0) ((rd_T26 l0_3 x13_1).f1.f0) ((rd_T26 l0_3 x13_1).f1.f1) _ _ ((rd_T26 l0_3 x13_1).f2) t238 t239 _ ?side1 ?side2 A7.out).mono ?_); (case side1 => exact Kd.C_below HR236_3.out zb); (case side2 => exact HC236_3.out); rintro e w12 ⟨rfl, hb⟩; refine ⟨_, rfl, ?_⟩; replace BK235 := (zw2 gb235 #[.int .i64 a0_0, .int .i64 a0_1, .string a0_2, .slice (some ad236) l0_3.length c0_3] 26 hb); replace BK237 := (zw2 gb237 #[.int .i64 ((rd_T26 l0_3 x13_1).f0), .int .i64 ((rd_T26 l0_3 x13_1).f1.f0), .string ((rd_T26 l0_3 x13_1).f1.f1), .slice A236_3 ((rd_T26 l0_3 x13_1).f2).length c236_3] 26 hb); replace HB := (zB hb); (try clear hb); (try clear hb2); (try clear hk); (try clear hi)))
    go_roundg k1
    case measure => have := HK1.out; omega
    case rel => exact ⟨(wrap64 (x4_1 + t238)), (ji8), (wrap64 (x13_1 + 1)), zs, (by first | rfl | (simp; done) | (simp only [← hji8] <;> (first | rfl | simp)) | (simp [*]; done)), zs, H', zk, (zA BK235), ⟨zb⟩⟩
   ·rw [if_neg c4] at H; have c4b0 := decide_eq_false c4; clear c4; simp only [Option.some.injEq, Prod.mk.injEq] at H; obtain ⟨rfl, rfl⟩ := H; go_wp2
    go_ret2
    exact ⟨zr, zb⟩

/-! ### tree_Count: function 29 -/
def tree_Count.f (k : Nat) (a0_0 : Int) (a0_1 : Int) (a0_2 : ByteArray) (l0_3 : List (S26)) : Option (Int × Int × Int) := (tree_IsFormed.f k a0_0 a0_1 a0_2 l0_3).bind fun t241 => (if t241 = true then ((tree_count.f k a0_0 a0_1 a0_2 l0_3).bind fun bt242 => (some (bt242.1, bt242.2, 0))) else (some (0, 0, 4)))
set_option maxHeartbeats 8000000 in
set_option maxRecDepth 100000 in
theorem tree_Count.calls (k : Nat) (a0_0 : Int) (a0_1 : Int) (a0_2 : ByteArray) (A0_3 : Option Addr) (c0_3 : Nat) (l0_3 : List (S26)) (r1 : Int) (r2 : Int) (r3 : Int) (w : World) (hr0_3 : Kd.C k26 w A0_3 l0_3.length l0_3) (hc0_3 : l0_3.length ≤ c0_3) (h : tree_Count.f k a0_0 a0_1 a0_2 l0_3 = some (r1, r2, r3)) :
  Calls Try.prog 29 #[.agg #[.int .i64 a0_0, .int .i64 a0_1, .string a0_2, .slice A0_3 l0_3.length c0_3]] w fun e w' => e = .returned (.tuple #[.int .i64 r1, .int .i64 r2, .int .i64 r3]) ∧ Below w.heap.size w w' := by
 have hu26 := Try.underlying26; have HR0_3 := Aside0.mk hr0_3; have HC0_3 := Aside0.mk hc0_3; clear hr0_3 hc0_3; have HB := Aside0.mk (Below.refl w.heap.size w); have H : ((tree_IsFormed.f k a0_0 a0_1 a0_2 l0_3).bind fun t241 => (if t241 = true then ((tree_count.f k a0_0 a0_1 a0_2 l0_3).bind fun bt242 => (some (bt242.1, bt242.2, 0))) else (some (0, 0, 4)))) = some (r1, r2, r3) := h; clear h; replace H := zo H; obtain ⟨t241, A2, H⟩ := H; by_cases c3 : t241 = true
 ·subst c3; rw [if_pos rfl] at H; replace H := Option.bind_eq_some_iff.mp H; obtain ⟨⟨t242, t243⟩, A40, H⟩ := H; replace H : (some (t242, t243, 0)) = some (r1, r2, r3) := H; have A4 := Aside0.mk A40; clear A40; simp only [Option.some.injEq, Prod.mk.injEq] at H; obtain ⟨rfl, rfl, rfl⟩ := H; go_enter Try.func29, Try.ntmps29
  go_wp2_with (first | ((with_reducible refine zD 1 rfl ?_); refine zx 1 #[.int .i64 a0_0, .int .i64 a0_1, .string a0_2, .slice A0_3 l0_3.length c0_3] 26 ?_; intro gb240 hg w5 hbox hb; have BK240 := Aside0.mk (hbox); have GW240 := (zq hg : Aside0 (w.heap.size ≤ gb240)); have GE240 := GW240; replace HB := (zB hb); clear hb hbox hg; obtain ⟨hcz6_0, hcz6_1, hcz6_2, hcz6_3⟩ := zc4 BK240; obtain ⟨hfz6_0, hfz6_1, hfz6_2, hfz6_3⟩ := zz4 BK240) | ((with_reducible refine zG 30 rfl ?_); refine zg 8 Try.func30 ((tree_IsFormed.calls k a0_0 a0_1 a0_2 _ _ l0_3 true _ ?side1 ?side2 A2.out).mono ?_); (case side1 => exact zC HR0_3); (case side2 => exact HC0_3.out); rintro e w7 ⟨rfl, hb⟩; refine ⟨_, rfl, ?_⟩; replace BK240 := (zK BK240 hb); replace HB := (zB hb); (try clear hb); (try clear hb2); (try clear hk); (try clear hi); obtain ⟨hcz8_0, hcz8_1, hcz8_2, hcz8_3⟩ := zc4 BK240; obtain ⟨hfz8_0, hfz8_1, hfz8_2, hfz8_3⟩ := zz4 BK240) | ((with_reducible refine zG 64 rfl ?_); refine zg 12 Try.func64 ((tree_count.calls k a0_0 a0_1 a0_2 _ _ l0_3 t242 t243 _ ?side1 ?side2 A4.out).mono ?_); (case side1 => exact zC HR0_3); (case side2 => exact HC0_3.out); rintro e w9 ⟨rfl, hb⟩; refine ⟨_, rfl, ?_⟩; replace BK240 := (zK BK240 hb); replace HB := (zB hb); (try clear hb); (try clear hb2); (try clear hk); (try clear hi)))
  go_ret3
  exact ⟨zr, zb⟩
 ·replace c3 := Bool.eq_false_iff.mpr c3; subst c3; replace H := zf H; simp only [Option.some.injEq, Prod.mk.injEq] at H; obtain ⟨rfl, rfl, rfl⟩ := H; go_enter Try.func29, Try.ntmps29
  go_wp2_with (first | ((with_reducible refine zD 1 rfl ?_); refine zx 1 #[.int .i64 a0_0, .int .i64 a0_1, .string a0_2, .slice A0_3 l0_3.length c0_3] 26 ?_; intro gb240 hg w10 hbox hb; have BK240 := Aside0.mk (hbox); have GW240 := (zq hg : Aside0 (w.heap.size ≤ gb240)); have GE240 := GW240; replace HB := (zB hb); clear hb hbox hg; obtain ⟨hcz11_0, hcz11_1, hcz11_2, hcz11_3⟩ := zc4 BK240; obtain ⟨hfz11_0, hfz11_1, hfz11_2, hfz11_3⟩ := zz4 BK240) | ((with_reducible refine zG 30 rfl ?_); refine zg 8 Try.func30 ((tree_IsFormed.calls k a0_0 a0_1 a0_2 _ _ l0_3 false _ ?side1 ?side2 A2.out).mono ?_); (case side1 => exact zC HR0_3); (case side2 => exact HC0_3.out); rintro e w12 ⟨rfl, hb⟩; refine ⟨_, rfl, ?_⟩; replace BK240 := (zK BK240 hb); replace HB := (zB hb); (try clear hb); (try clear hb2); (try clear hk); (try clear hi)))
  go_ret3
  exact ⟨zr, zb⟩

/-! ### marginalialaw05_leaf: function 42 -/
def marginalialaw05_leaf.f (k : Nat) (a0 : ByteArray) : Option (Int × Int × ByteArray × (List (S26))) := (marginaliaref03_Next.f k a0 0).bind fun bt245 => (some (1, bt245.1, bt245.2, ([] : List (S26))))
set_option maxHeartbeats 8000000 in
set_option maxRecDepth 100000 in
theorem marginalialaw05_leaf.calls (k : Nat) (a0 : ByteArray) (r1 : Int) (r2 : Int) (r3 : ByteArray) (r4 : List (S26)) (w : World) (h : marginalialaw05_leaf.f k a0 = some (r1, r2, r3, r4)) :
  Calls Try.prog 42 #[.string a0] w fun e w' => ∃ v3_ : Value, e = .returned (.agg #[.int .i64 r1, .int .i64 r2, .string r3, v3_]) ∧ Kd.R k26 26 w' w.heap.size (fun _ => True) v3_ r4 ∧ Below w.heap.size w w' := by
 have hu26 := Try.underlying26; have HB := Aside0.mk (Below.refl w.heap.size w); have H : ((marginaliaref03_Next.f k a0 0).bind fun bt245 => (some (1, bt245.1, bt245.2, ([] : List (S26))))) = some (r1, r2, r3, r4) := h; clear h; replace H := Option.bind_eq_some_iff.mp H; obtain ⟨⟨t245, t246⟩, A20, H⟩ := H; replace H : (some (1, t245, t246, ([] : List (S26)))) = some (r1, r2, r3, r4) := H; have A2 := Aside0.mk A20; clear A20; simp only [Option.some.injEq, Prod.mk.injEq] at H; obtain ⟨rfl, rfl, rfl, rfl⟩ := H; go_enter Try.func42, Try.ntmps42
 go_wp2_with (first | ((with_reducible refine zD 2 rfl ?_); refine zx 2 #[.int .i64 0, .int .i64 0, .string (⟨#[]⟩ : ByteArray), .slice none 0 0] 26 ?_; intro gb244 hg w3 hbox hb; have BK244 := Aside0.mk (hbox); have GW244 := (zq hg : Aside0 (w.heap.size ≤ gb244)); have GE244 := GW244; replace HB := (zB hb); clear hb hbox hg) | ((with_reducible refine zG 75 rfl ?_); refine zg 4 Try.func75 ((marginaliaref03_Next.calls k a0 0 t245 t246 _ A2.out).mono ?_); rintro e w4 ⟨rfl, hb⟩; refine ⟨_, rfl, ?_⟩; replace BK244 := (zK BK244 hb); replace HB := (zB hb); (try clear hb); (try clear hb2); (try clear hk); (try clear hi); obtain ⟨hcz5_0, hcz5_1, hcz5_2, hcz5_3⟩ := zc4 BK244; obtain ⟨hfz5_0, hfz5_1, hfz5_2, hfz5_3⟩ := zz4 BK244))
 refine bodyPost_ret (results_cell_row rfl _ _ gb244 26 #[.int .i64 1, .int .i64 t245, .string t246, .slice none 0 0] (0, 0) _ rfl zw Try.underlying26 rfl (by kernel_rfl)) rfl ?_; exact ⟨_, zr, by first | exact Kd.R_nil _ _ _ _ _ | exact Kd.N_nil _ _ _ _ _ | exact Kd.V_nil _ _ _ _ _ | exact Kd.Q_nil _ _ _ _ _ | exact Kd.S_nil _ _ _ _ _, zb⟩

end Go.Proofs.Ytnafnieocpkkhaa.P

namespace Go.Proofs.Ytnafnieocpkkhaa.P
open Go.RowKit Go.Proofs.YtnafnieocpkkhaaW.PrintWords Go.Proofs.YtnafnieocpkkhaaW.PrintLast Go.Proofs.YtnafnieocpkkhaaW.PrintMore
attribute [local go_sem] max2_int min2_int max_two min_two max_three min_three max_four min_four
set_option linter.unusedVariables false
set_option linter.unusedSimpArgs false

def marginalialaw05_sample.lf (k : Int) (b : UInt8) : S26 := ⟨1, ⟨k, ⟨#[b]⟩⟩, []⟩
def marginalialaw05_sample.nm (b : UInt8) : S26 := ⟨23, ⟨0, ⟨#[]⟩⟩, [marginalialaw05_sample.lf 3 b]⟩
def marginalialaw05_sample.ar : S26 := ⟨22, ⟨0, ⟨#[]⟩⟩, [marginalialaw05_sample.lf 7 40, marginalialaw05_sample.nm 120, marginalialaw05_sample.lf 1 32, marginalialaw05_sample.lf 7 41]⟩
def marginalialaw05_sample.kids : List (S26) := [marginalialaw05_sample.nm 102, marginalialaw05_sample.ar]
def marginalialaw05_sample.f : Option (Int × Int × ByteArray × List (S26)) := some (21, 0, ⟨#[]⟩, marginalialaw05_sample.kids)
theorem marginalialaw05_sample.l40 : marginalialaw05_leaf.f 60 ⟨#[40]⟩ = some (1, 7, ⟨#[40]⟩, []) := by kernel_rfl
theorem marginalialaw05_sample.l120 : marginalialaw05_leaf.f 60 ⟨#[120]⟩ = some (1, 3, ⟨#[120]⟩, []) := by kernel_rfl
theorem marginalialaw05_sample.l32 : marginalialaw05_leaf.f 60 ⟨#[32]⟩ = some (1, 1, ⟨#[32]⟩, []) := by kernel_rfl
theorem marginalialaw05_sample.l41 : marginalialaw05_leaf.f 60 ⟨#[41]⟩ = some (1, 7, ⟨#[41]⟩, []) := by kernel_rfl
theorem marginalialaw05_sample.l102 : marginalialaw05_leaf.f 60 ⟨#[102]⟩ = some (1, 3, ⟨#[102]⟩, []) := by kernel_rfl
/-- A literal of elements that the call has made. -/
theorem marginalialaw05_sample.lit {α : Type} (d : Kd α) {W : World} {base e : Nat} {xs : List α} {inner : List Value} (hrep : Reps (d.M W base (fun _ => True)) d.sz xs inner) (hbase : base ≤ W.heap.size) (hm : xs.length ≤ 1000) : d.R e (W.alloc (.cells inner.toArray e)) base (fun _ => True) (.slice (some ⟨W.heap.size, 0, none⟩) xs.length xs.length) xs := by
 refine ⟨fun _ _ => trivial, inner, ?_, ?_⟩
 ·have h2 := World.ownsRow_lit (base := base) (e := e) (size := d.sz) W inner.toArray xs.length hbase (by unfold maxLen; omega) (by simpa using hrep.1)
  simpa using h2
 ·refine hrep.imp_ (fun p c hp => d.M_mono (fun k hk => ⟨trivial, fun he => ?_⟩) (Kd.M_below (d.M_bound hp) (below_alloc (Below.refl _ _) _)))
  have h3 : k = W.heap.size := (by simpa [Value.ownBlock] using he)
  have := hk.2.2.1
  omega
/-- A leaf's cells, in a later world. -/
theorem marginalialaw05_sample.leafM {w W : World} {base : Nat} {k : Int} {b : UInt8} {v : Value} (h : Kd.R k26 26 w base (fun _ => True) v []) (hb : Below w.heap.size w W) : (k26).M W base (fun _ => True) (marginalialaw05_sample.lf k b) [.int .i64 1, .int .i64 k, .string ⟨#[b]⟩, v] := k26_mkM W base _ (marginalialaw05_sample.lf k b) (Kd.R_below h hb)
set_option maxHeartbeats 8000000 in
set_option maxRecDepth 100000 in
theorem marginalialaw05_sample.calls (r1 : Int) (r2 : Int) (r3 : ByteArray) (r4 : List (S26)) (w : World) (h : marginalialaw05_sample.f = some (r1, r2, r3, r4)) :
  Calls Try.prog 44 #[] w fun e w' => ∃ v3_ : Value, e = .returned (.agg #[.int .i64 r1, .int .i64 r2, .string r3, v3_]) ∧ Kd.R k26 26 w' w.heap.size (fun _ => True) v3_ r4 ∧ Below w.heap.size w w' := by
 have hu := Try.underlying26; simp only [marginalialaw05_sample.f, Option.some.injEq, Prod.mk.injEq] at h; obtain ⟨rfl, rfl, rfl, rfl⟩ := h; have HB0 := Aside0.mk (Below.refl (w.alloc (.cells #[.int .i64 0, .int .i64 0, .string (⟨#[]⟩ : ByteArray), .slice none 0 0] 26)).heap.size (w.alloc (.cells #[.int .i64 0, .int .i64 0, .string (⟨#[]⟩ : ByteArray), .slice none 0 0] 26))); have HG0 := Aside0.mk (blk_new w (.cells #[.int .i64 0, .int .i64 0, .string (⟨#[]⟩ : ByteArray), .slice none 0 0] 26))
 have HS0 : Aside0 ((w.alloc (.cells #[.int .i64 0, .int .i64 0, .string (⟨#[]⟩ : ByteArray), .slice none 0 0] 26)).heap.size = w.heap.size + 1) := ⟨by simp⟩
 have HWB := Aside0.mk (below_alloc (Below.refl w.heap.size w) (.cells #[.int .i64 0, .int .i64 0, .string (⟨#[]⟩ : ByteArray), .slice none 0 0] 26)); generalize hw0 : w.alloc (.cells #[.int .i64 0, .int .i64 0, .string (⟨#[]⟩ : ByteArray), .slice none 0 0] 26) = w0 at *; have HW0 := Aside0.mk hw0; clear hw0; go_enter Try.func44, Try.ntmps44
 go_upto_region 1 with fail
 rw [HW0.out]; go_wp2_with fail; refine (marginalialaw05_leaf.calls 60 _ _ _ _ _ _ marginalialaw05_sample.l40).mono ?_; rintro e w1 ⟨v, rfl, hR, hb⟩; obtain ⟨A1, c1, hv, _, _⟩ := Kd.R_reads hR; subst hv; have HR1_1 := Aside0.mk (Kd.R_lower hR HB0.out.size); have HB1 := Aside0.mk (token_good.step HB0.out hb); have HG1 := Aside0.mk (blk_below HG0.out hb); clear hR hb HB0 HG0; go_wp2_with fail; refine (marginalialaw05_leaf.calls 60 _ _ _ _ _ _ marginalialaw05_sample.l120).mono ?_; rintro e w2 ⟨v, rfl, hR, hb⟩; obtain ⟨A2, c2, hv, _, _⟩ := Kd.R_reads hR; subst hv; have HR2_2 := Aside0.mk (Kd.R_lower hR HB1.out.size); have HB2 := Aside0.mk (token_good.step HB1.out hb); have HG2 := Aside0.mk (blk_below HG1.out hb); have HR1_2 := Aside0.mk (Kd.R_below HR1_1.out hb); clear hR hb HB1 HG1 HR1_1; have HRx_2 := Aside0.mk (marginalialaw05_sample.lit (e := 26) k26 (W := w2) (base := w0.heap.size) (xs := [marginalialaw05_sample.lf 3 120]) (inner := [.int .i64 1, .int .i64 3, .string ⟨#[120]⟩, .slice A2 0 c2]) (show Reps _ 4 _ _ from by simpa using Reps.snoc (Reps.none _ _) (marginalialaw05_sample.leafM (b := 120) HR2_2.out (Below.refl _ _)) rfl) HB2.out.size (by simp)); go_wp2_with fail; refine (marginalialaw05_leaf.calls 60 _ _ _ _ _ _ marginalialaw05_sample.l32).mono ?_; rintro e w3 ⟨v, rfl, hR, hb⟩; obtain ⟨A3, c3, hv, _, _⟩ := Kd.R_reads hR; subst hv; have HR3_3 := Aside0.mk (Kd.R_lower hR (below_alloc HB2.out (.cells #[.int .i64 1, .int .i64 3, .string ⟨#[120]⟩, .slice A2 0 c2] 26)).size); have HB3 := Aside0.mk (token_good.step (below_alloc HB2.out (.cells #[.int .i64 1, .int .i64 3, .string ⟨#[120]⟩, .slice A2 0 c2] 26)) hb); have HG3 := Aside0.mk (blk_below (blk_alloc HG2.out (.cells #[.int .i64 1, .int .i64 3, .string ⟨#[120]⟩, .slice A2 0 c2] 26)) hb); have HR1_3 := Aside0.mk (Kd.R_below (Kd.R_alloc HR1_2.out (.cells #[.int .i64 1, .int .i64 3, .string ⟨#[120]⟩, .slice A2 0 c2] 26)) hb); have HRx_3 := Aside0.mk (Kd.R_below HRx_2.out hb); clear hR hb HB2 HG2 HR1_2 HRx_2; go_wp2_with fail; refine (marginalialaw05_leaf.calls 60 _ _ _ _ _ _ marginalialaw05_sample.l41).mono ?_; rintro e w4 ⟨v, rfl, hR, hb⟩; obtain ⟨A4, c4, hv, _, _⟩ := Kd.R_reads hR; subst hv; have HR4_4 := Aside0.mk (Kd.R_lower hR HB3.out.size); have HB4 := Aside0.mk (token_good.step HB3.out hb); have HG4 := Aside0.mk (blk_below HG3.out hb); have HR1_4 := Aside0.mk (Kd.R_below HR1_3.out hb); have HRx_4 := Aside0.mk (Kd.R_below HRx_3.out hb); have HR3_4 := Aside0.mk (Kd.R_below HR3_3.out hb); clear hR hb HB3 HG3 HR1_3 HRx_3 HR3_3; have HRy_4 := Aside0.mk (marginalialaw05_sample.lit (e := 26) k26 (W := w4) (base := w0.heap.size) (xs := marginalialaw05_sample.ar.f2) (inner := [.int .i64 1, .int .i64 7, .string ⟨#[40]⟩, .slice A1 0 c1, .int .i64 23, .int .i64 0, .string (⟨#[]⟩ : ByteArray), .slice (some ⟨w2.heap.size, 0, none⟩) 1 1, .int .i64 1, .int .i64 1, .string ⟨#[32]⟩, .slice A3 0 c3, .int .i64 1, .int .i64 7, .string ⟨#[41]⟩, .slice A4 0 c4]) (show Reps _ 4 _ _ from by simpa [marginalialaw05_sample.ar, marginalialaw05_sample.nm] using Reps.snoc (Reps.snoc (Reps.snoc (Reps.snoc (Reps.none _ _) (marginalialaw05_sample.leafM (b := 40) HR1_4.out (Below.refl _ _)) rfl) (k26_mkM w4 w0.heap.size _ (marginalialaw05_sample.nm 120) HRx_4.out) rfl) (marginalialaw05_sample.leafM (b := 32) HR3_4.out (Below.refl _ _)) rfl) (marginalialaw05_sample.leafM (b := 41) HR4_4.out (Below.refl _ _)) rfl) HB4.out.size (by simp [marginalialaw05_sample.ar])); go_wp2_with fail; have HB5 := Aside0.mk (below_alloc (below_alloc HB4.out (.cells #[.int .i64 1, .int .i64 7, .string ⟨#[40]⟩, .slice A1 0 c1, .int .i64 23, .int .i64 0, .string (⟨#[]⟩ : ByteArray), .slice (some ⟨w2.heap.size, 0, none⟩) 1 1, .int .i64 1, .int .i64 1, .string ⟨#[32]⟩, .slice A3 0 c3, .int .i64 1, .int .i64 7, .string ⟨#[41]⟩, .slice A4 0 c4] 26)) (.cells #[.int .i64 22, .int .i64 0, .string (⟨#[]⟩ : ByteArray), .slice (some ⟨w4.heap.size, 0, none⟩) 4 4] 26)); have HG5 := Aside0.mk (blk_alloc (blk_alloc HG4.out (.cells #[.int .i64 1, .int .i64 7, .string ⟨#[40]⟩, .slice A1 0 c1, .int .i64 23, .int .i64 0, .string (⟨#[]⟩ : ByteArray), .slice (some ⟨w2.heap.size, 0, none⟩) 1 1, .int .i64 1, .int .i64 1, .string ⟨#[32]⟩, .slice A3 0 c3, .int .i64 1, .int .i64 7, .string ⟨#[41]⟩, .slice A4 0 c4] 26)) (.cells #[.int .i64 22, .int .i64 0, .string (⟨#[]⟩ : ByteArray), .slice (some ⟨w4.heap.size, 0, none⟩) 4 4] 26))
 have HA5 : Aside0 (((w4.alloc (.cells #[.int .i64 1, .int .i64 7, .string ⟨#[40]⟩, .slice A1 0 c1, .int .i64 23, .int .i64 0, .string (⟨#[]⟩ : ByteArray), .slice (some ⟨w2.heap.size, 0, none⟩) 1 1, .int .i64 1, .int .i64 1, .string ⟨#[32]⟩, .slice A3 0 c3, .int .i64 1, .int .i64 7, .string ⟨#[41]⟩, .slice A4 0 c4] 26)).alloc (.cells #[.int .i64 22, .int .i64 0, .string (⟨#[]⟩ : ByteArray), .slice (some ⟨w4.heap.size, 0, none⟩) 4 4] 26)).heap[w4.heap.size + 1]? = some (.cells #[.int .i64 22, .int .i64 0, .string (⟨#[]⟩ : ByteArray), .slice (some ⟨w4.heap.size, 0, none⟩) 4 4] 26 (0, 0))) := ⟨by
  have := blk_new (w4.alloc (.cells #[.int .i64 1, .int .i64 7, .string ⟨#[40]⟩, .slice A1 0 c1, .int .i64 23, .int .i64 0, .string (⟨#[]⟩ : ByteArray), .slice (some ⟨w2.heap.size, 0, none⟩) 1 1, .int .i64 1, .int .i64 1, .string ⟨#[32]⟩, .slice A3 0 c3, .int .i64 1, .int .i64 7, .string ⟨#[41]⟩, .slice A4 0 c4] 26)) (.cells #[.int .i64 22, .int .i64 0, .string (⟨#[]⟩ : ByteArray), .slice (some ⟨w4.heap.size, 0, none⟩) 4 4] 26)
  simpa using this⟩
 have HR5 := Aside0.mk (Kd.R_alloc HRy_4.out (.cells #[.int .i64 22, .int .i64 0, .string (⟨#[]⟩ : ByteArray), .slice (some ⟨w4.heap.size, 0, none⟩) 4 4] 26)); clear HB4 HG4 HRy_4 HR1_4 HRx_4 HR3_4 HR4_4 HR2_2; generalize ((w4.alloc (.cells #[.int .i64 1, .int .i64 7, .string ⟨#[40]⟩, .slice A1 0 c1, .int .i64 23, .int .i64 0, .string (⟨#[]⟩ : ByteArray), .slice (some ⟨w2.heap.size, 0, none⟩) 1 1, .int .i64 1, .int .i64 1, .string ⟨#[32]⟩, .slice A3 0 c3, .int .i64 1, .int .i64 7, .string ⟨#[41]⟩, .slice A4 0 c4] 26)).alloc (.cells #[.int .i64 22, .int .i64 0, .string (⟨#[]⟩ : ByteArray), .slice (some ⟨w4.heap.size, 0, none⟩) 4 4] 26)) = W5 at *; have q0 : W5.cell? ⟨w4.heap.size + 1, 0, none⟩ = some (.int .i64 22) := Lib.cell_of_heap HA5.out 0; have q1 : W5.cell? ⟨w4.heap.size + 1, 1, none⟩ = some (.int .i64 0) := Lib.cell_of_heap HA5.out 1; have q2 : W5.cell? ⟨w4.heap.size + 1, 2, none⟩ = some (.string (⟨#[]⟩ : ByteArray)) := Lib.cell_of_heap HA5.out 2; have q3 : W5.cell? ⟨w4.heap.size + 1, 3, none⟩ = some (.slice (some ⟨w4.heap.size, 0, none⟩) 4 4) := Lib.cell_of_heap HA5.out 3
 go_region_law (go_simp; go_at_call 42; refine (marginalialaw05_leaf.calls 60 _ _ _ _ _ _ marginalialaw05_sample.l102).mono ?_; rintro e w6 ⟨v6, rfl, hR6, hb6⟩; obtain ⟨A6, c6, hv6, _, _⟩ := Kd.R_reads hR6; subst hv6; have hA6 := blk_below (blk_drew HA5.out) hb6; have hG6 := blk_alloc (blk_alloc (blk_below (blk_drew HG5.out) hb6) (.cells #[.int .i64 1, .int .i64 3, .string ⟨#[102]⟩, .slice A6 0 c6] 26)) (.cells #[.int .i64 23, .int .i64 0, .string (⟨#[]⟩ : ByteArray), .slice (some ⟨w6.heap.size, 0, none⟩) 1 1, .int .i64 22, .int .i64 0, .string (⟨#[]⟩ : ByteArray), .slice (some ⟨w4.heap.size, 0, none⟩) 4 4] 26); have p0 : w6.cell? ⟨w4.heap.size + 1, 0, none⟩ = some (.int .i64 22) := Lib.cell_of_heap hA6 0; have s0 : (w6.alloc (.cells #[.int .i64 1, .int .i64 3, .string ⟨#[102]⟩, .slice A6 0 c6] 26)).cell? ⟨w4.heap.size + 1, 0, none⟩ = some (.int .i64 22) := Lib.cell_of_heap (blk_alloc hA6 _) 0; have d0 : ((w6.alloc (.cells #[.int .i64 1, .int .i64 3, .string ⟨#[102]⟩, .slice A6 0 c6] 26)).alloc (.cells #[.int .i64 23, .int .i64 0, .string (⟨#[]⟩ : ByteArray), .slice (some ⟨w6.heap.size, 0, none⟩) 1 1, .int .i64 22, .int .i64 0, .string (⟨#[]⟩ : ByteArray), .slice (some ⟨w4.heap.size, 0, none⟩) 4 4] 26)).cell? ⟨w.heap.size, 0, none⟩ = some (.int .i64 0) := Lib.cell_of_heap hG6 0; have f0 := Lib.frozen_of_heap hG6 0; have p1 : w6.cell? ⟨w4.heap.size + 1, 1, none⟩ = some (.int .i64 0) := Lib.cell_of_heap hA6 1; have s1 : (w6.alloc (.cells #[.int .i64 1, .int .i64 3, .string ⟨#[102]⟩, .slice A6 0 c6] 26)).cell? ⟨w4.heap.size + 1, 1, none⟩ = some (.int .i64 0) := Lib.cell_of_heap (blk_alloc hA6 _) 1; have d1 : ((w6.alloc (.cells #[.int .i64 1, .int .i64 3, .string ⟨#[102]⟩, .slice A6 0 c6] 26)).alloc (.cells #[.int .i64 23, .int .i64 0, .string (⟨#[]⟩ : ByteArray), .slice (some ⟨w6.heap.size, 0, none⟩) 1 1, .int .i64 22, .int .i64 0, .string (⟨#[]⟩ : ByteArray), .slice (some ⟨w4.heap.size, 0, none⟩) 4 4] 26)).cell? ⟨w.heap.size, 1, none⟩ = some (.int .i64 0) := Lib.cell_of_heap hG6 1; have f1 := Lib.frozen_of_heap hG6 1; have p2 : w6.cell? ⟨w4.heap.size + 1, 2, none⟩ = some (.string (⟨#[]⟩ : ByteArray)) := Lib.cell_of_heap hA6 2; have s2 : (w6.alloc (.cells #[.int .i64 1, .int .i64 3, .string ⟨#[102]⟩, .slice A6 0 c6] 26)).cell? ⟨w4.heap.size + 1, 2, none⟩ = some (.string (⟨#[]⟩ : ByteArray)) := Lib.cell_of_heap (blk_alloc hA6 _) 2; have d2 : ((w6.alloc (.cells #[.int .i64 1, .int .i64 3, .string ⟨#[102]⟩, .slice A6 0 c6] 26)).alloc (.cells #[.int .i64 23, .int .i64 0, .string (⟨#[]⟩ : ByteArray), .slice (some ⟨w6.heap.size, 0, none⟩) 1 1, .int .i64 22, .int .i64 0, .string (⟨#[]⟩ : ByteArray), .slice (some ⟨w4.heap.size, 0, none⟩) 4 4] 26)).cell? ⟨w.heap.size, 2, none⟩ = some (.string (⟨#[]⟩ : ByteArray)) := Lib.cell_of_heap hG6 2; have f2 := Lib.frozen_of_heap hG6 2; have p3 : w6.cell? ⟨w4.heap.size + 1, 3, none⟩ = some (.slice (some ⟨w4.heap.size, 0, none⟩) 4 4) := Lib.cell_of_heap hA6 3; have s3 : (w6.alloc (.cells #[.int .i64 1, .int .i64 3, .string ⟨#[102]⟩, .slice A6 0 c6] 26)).cell? ⟨w4.heap.size + 1, 3, none⟩ = some (.slice (some ⟨w4.heap.size, 0, none⟩) 4 4) := Lib.cell_of_heap (blk_alloc hA6 _) 3; have d3 : ((w6.alloc (.cells #[.int .i64 1, .int .i64 3, .string ⟨#[102]⟩, .slice A6 0 c6] 26)).alloc (.cells #[.int .i64 23, .int .i64 0, .string (⟨#[]⟩ : ByteArray), .slice (some ⟨w6.heap.size, 0, none⟩) 1 1, .int .i64 22, .int .i64 0, .string (⟨#[]⟩ : ByteArray), .slice (some ⟨w4.heap.size, 0, none⟩) 4 4] 26)).cell? ⟨w.heap.size, 3, none⟩ = some (.slice none 0 0) := Lib.cell_of_heap hG6 3; have f3 := Lib.frozen_of_heap hG6 3)
 all_goals
  have HB6 := Aside0.mk (token_good.step (below_drew1 HB5.out) hb6); have HR6 := Aside0.mk (marginalialaw05_sample.lit (e := 26) k26 (W := w6) (base := w0.heap.size) (xs := [marginalialaw05_sample.lf 3 102]) (inner := [.int .i64 1, .int .i64 3, .string ⟨#[102]⟩, .slice A6 0 c6]) (show Reps _ 4 _ _ from by simpa using Reps.snoc (Reps.none _ _) (marginalialaw05_sample.leafM (b := 102) (Kd.R_lower hR6 (below_drew1 HB5.out).size) (Below.refl _ _)) rfl) HB6.out.size (by simp)); have HRy := Aside0.mk (Kd.R_alloc (Kd.R_below (Kd.R_drew HR5.out) hb6) (.cells #[.int .i64 1, .int .i64 3, .string ⟨#[102]⟩, .slice A6 0 c6] 26)); have HB7 := Aside0.mk (below_alloc HB6.out (.cells #[.int .i64 1, .int .i64 3, .string ⟨#[102]⟩, .slice A6 0 c6] 26))
  have HS7 : Aside0 ((w6.alloc (.cells #[.int .i64 1, .int .i64 3, .string ⟨#[102]⟩, .slice A6 0 c6] 26)).heap.size = w6.heap.size + 1) := ⟨by simp⟩
  have HK := Aside0.mk (marginalialaw05_sample.lit (e := 26) k26 (W := w6.alloc (.cells #[.int .i64 1, .int .i64 3, .string ⟨#[102]⟩, .slice A6 0 c6] 26)) (base := w0.heap.size) (xs := marginalialaw05_sample.kids) (inner := [.int .i64 23, .int .i64 0, .string (⟨#[]⟩ : ByteArray), .slice (some ⟨w6.heap.size, 0, none⟩) 1 1, .int .i64 22, .int .i64 0, .string (⟨#[]⟩ : ByteArray), .slice (some ⟨w4.heap.size, 0, none⟩) 4 4]) (show Reps _ 4 _ _ from by simpa [marginalialaw05_sample.kids, marginalialaw05_sample.ar, marginalialaw05_sample.nm] using Reps.snoc (Reps.snoc (Reps.none _ _) (k26_mkM (w6.alloc (.cells #[.int .i64 1, .int .i64 3, .string ⟨#[102]⟩, .slice A6 0 c6] 26)) w0.heap.size _ (marginalialaw05_sample.nm 102) HR6.out) rfl) (k26_mkM (w6.alloc (.cells #[.int .i64 1, .int .i64 3, .string ⟨#[102]⟩, .slice A6 0 c6] 26)) w0.heap.size _ marginalialaw05_sample.ar HRy.out) rfl) HB7.out.size (by simp [marginalialaw05_sample.kids])); have HGz := Aside0.mk hG6; go_wp2_with fail
  have HK2 : Kd.R k26 26 ((w6.alloc (.cells #[.int .i64 1, .int .i64 3, .string ⟨#[102]⟩, .slice A6 0 c6] 26)).alloc (.cells #[.int .i64 23, .int .i64 0, .string (⟨#[]⟩ : ByteArray), .slice (some ⟨w6.heap.size, 0, none⟩) 1 1, .int .i64 22, .int .i64 0, .string (⟨#[]⟩ : ByteArray), .slice (some ⟨w4.heap.size, 0, none⟩) 4 4] 26)) w0.heap.size (fun _ => True) (.slice (some ⟨w6.heap.size + 1, 0, none⟩) 2 2) marginalialaw05_sample.kids := by
   have hk := HK.out; rw [HS7.out] at hk; exact hk
  have hok : ∀ k, w0.heap.size ≤ k → k ≠ w.heap.size := fun k hk => by have := HS0.out; omega
  refine bodyPost_ret (results_cell_row rfl _ _ w.heap.size 26 #[.int .i64 21, .int .i64 0, .string (⟨#[]⟩ : ByteArray), .slice (some ⟨w6.heap.size + 1, 0, none⟩) 2 2] (0, 0) _ rfl (by refine blk_put (cs := #[.int .i64 21, .int .i64 0, .string (⟨#[]⟩ : ByteArray), .slice none 0 0]) ?_ 3 _ rfl; refine blk_put (cs := #[.int .i64 21, .int .i64 0, .string (⟨#[]⟩ : ByteArray), .slice none 0 0]) ?_ 2 _ rfl; refine blk_put (cs := #[.int .i64 21, .int .i64 0, .string (⟨#[]⟩ : ByteArray), .slice none 0 0]) ?_ 1 _ rfl; refine blk_put (cs := #[.int .i64 0, .int .i64 0, .string (⟨#[]⟩ : ByteArray), .slice none 0 0]) ?_ 0 _ rfl; exact HGz.out) Try.underlying26 rfl (by kernel_rfl)) rfl ?_; refine ⟨_, rfl, Kd.R_mono (Kd.R_lower (Kd.R_far (p := ⟨w.heap.size, 3, none⟩) (Kd.R_far (p := ⟨w.heap.size, 2, none⟩) (Kd.R_far (p := ⟨w.heap.size, 1, none⟩) (Kd.R_far (p := ⟨w.heap.size, 0, none⟩) (Kd.R_mono (Kd.R_bound HK2) (fun k hk => hk.2.1)) hok _) hok _) hok _) hok _) HWB.out.size) (fun _ _ => trivial), ?_⟩; exact below_set (below_set (below_set (below_set (HWB.out.trans ((below_alloc HB7.out (.cells #[.int .i64 23, .int .i64 0, .string (⟨#[]⟩ : ByteArray), .slice (some ⟨w6.heap.size, 0, none⟩) 1 1, .int .i64 22, .int .i64 0, .string (⟨#[]⟩ : ByteArray), .slice (some ⟨w4.heap.size, 0, none⟩) 4 4] 26)).mono HWB.out.size)) (Nat.le_refl _)) (Nat.le_refl _)) (Nat.le_refl _)) (Nat.le_refl _)


end Go.Proofs.Ytnafnieocpkkhaa.P

set_option linter.unusedVariables false
set_option linter.unusedSimpArgs false
namespace Go.Proofs.Ytnafnieocpkkhaa.P
open Go Go.RowKit Go.Proofs.Ytnafnieocpkkhaa Go.Proofs.YtnafnieocpkkhaaW.PrintWords Go.Proofs.YtnafnieocpkkhaaW.PrintLast Go.Proofs.YtnafnieocpkkhaaW.PrintMore
theorem deepT_tok : tok 3 ⟨#[120]⟩ = true := by decide
/-- The sample. -/
def sampN : Nd := ⟨21, ⟨0, ⟨#[]⟩⟩, marginalialaw05_sample.kids⟩
theorem sampN_wd : wd sampN = 5 := by
 simp [wd_eq, sampN, marginalialaw05_sample.kids, marginalialaw05_sample.nm, marginalialaw05_sample.ar, marginalialaw05_sample.lf, ByteArray.size]
theorem sampN_nd : nd sampN = 9 := by
 simp [nd_eq, sampN, marginalialaw05_sample.kids, marginalialaw05_sample.nm, marginalialaw05_sample.ar, marginalialaw05_sample.lf]
theorem sampN_lv : lv sampN = 5 := by
 simp [lv_eq, sampN, marginalialaw05_sample.kids, marginalialaw05_sample.nm, marginalialaw05_sample.ar, marginalialaw05_sample.lf]
theorem toks : tok 3 ⟨#[102]⟩ = true ∧ tok 7 ⟨#[40]⟩ = true ∧ tok 7 ⟨#[41]⟩ = true ∧ tok 1 ⟨#[32]⟩ = true := by decide
theorem sampN_fo (m : Nat) : fo (m + 4) sampN = true := by
 simp [fo, sampN, marginalialaw05_sample.kids, marginalialaw05_sample.nm, marginalialaw05_sample.ar, marginalialaw05_sample.lf, toks, deepT_tok]
theorem sampN_fmd : fmd sampN = true := by
 unfold fmd; rw [sampN_lv, sampN_fo 997]; rfl
end Go.Proofs.Ytnafnieocpkkhaa.P

namespace Go.Proofs.Ytnafnieocpkkhaa.P
open Go.RowKit Go.Proofs.YtnafnieocpkkhaaW.PrintWords Go.Proofs.YtnafnieocpkkhaaW.PrintLast Go.Proofs.YtnafnieocpkkhaaW.PrintMore
attribute [local go_sem] max2_int min2_int max_two min_two max_three min_three max_four min_four
set_option linter.unusedVariables false
set_option linter.unusedSimpArgs false

def tree_All.kids (g : S26 → List Int → List (List Int) → Option (List (List Int))) : List (S26) → Nat → List Int → List (List Int) → Option (List (List Int))
 | [], _, _, out => some out
 | x :: r, i, here, out => (g x (here ++ [(i : Int)]) out).bind fun o => tree_All.kids g r (i + 1) here o
def tree_All.go (kind : Int) : Nat → S26 → List Int → List (List Int) → Option (List (List Int))
 | 0, _, _, _ => none
 | m + 1, n, here, out => if here.length < 1000000 then (if out.length < 1000000 then tree_All.kids (tree_All.go kind m) n.f2 0 here (if n.f0 = kind then out ++ [here] else out) else none) else none
def tree_All.f (k : Nat) (a0_0 : Int) (a0_1 : Int) (a0_2 : ByteArray) (l0_3 : List (S26)) (a1 : Int) : Option (List (List Int) × Int) :=
 (tree_IsFormed.f k a0_0 a0_1 a0_2 l0_3).bind fun b => if b = true then (tree_All.go a1 k ⟨a0_0, ⟨a0_1, a0_2⟩, l0_3⟩ [] []).bind fun l => some (l, 0) else some ([], 4)
abbrev tree_All.RI (w : World) (base : Nat) (v : Value) (xs : List Int) : Prop := Kd.R (Kd.int .i64) 3 w base (fun _ => True) v xs
abbrev tree_All.RR (w : World) (base : Nat) (v : Value) (xs : List (List Int)) : Prop := Kd.R (Kd.slice 3 (Kd.int .i64)) 30 w base (fun _ => True) v xs
/-- What may have changed: block g, rows of []int's, and what is new. -/
def tree_All.Fr (g : Nat) (w w' : World) : Prop := w.heap.size ≤ w'.heap.size ∧ ∀ k, k < w.heap.size → k ≠ g → (∀ cs, w.heap[k]? ≠ some (.cells cs 30 (0, 0))) → w'.heap[k]? = w.heap[k]?
theorem tree_All.Fr.refl (g : Nat) (w : World) : tree_All.Fr g w w := ⟨Nat.le_refl _, fun _ _ _ _ => rfl⟩
theorem tree_All.Fr.trans {g : Nat} {w w1 w2 : World} (h : tree_All.Fr g w w1) (h2 : tree_All.Fr g w1 w2) : tree_All.Fr g w w2 :=
 ⟨Nat.le_trans h.1 h2.1, fun k hk hg ht => by
  have e := h.2 k hk hg ht
  exact (h2.2 k (Nat.lt_of_lt_of_le hk h.1) hg (fun cs hc => ht cs (by rw [← e]; exact hc))).trans e⟩
theorem tree_All.Fr.below {g : Nat} {w w1 : World} (h : Below w.heap.size w w1) : tree_All.Fr g w w1 := ⟨h.size, fun k hk _ _ => h.block k hk⟩
theorem tree_All.Fr.blk {g b : Nat} {w w1 : World} {cs : Array Value} {t : Nat} {fz : Nat × Nat} (h : tree_All.Fr g w w1) (hb : w.heap[b]? = some (.cells cs t fz)) (ht : t ≠ 30) (hg : b ≠ g) : w1.heap[b]? = some (.cells cs t fz) :=
 (h.2 b (blk_lt hb) hg (fun cs' hc => by rw [hb] at hc; injection hc with hc; injection hc with _ h2; exact ht h2)).trans hb
theorem tree_All.Fr.grown {g : Nat} {w w1 : World} {base : Nat} {v : Value} {xs : List (List Int)} (hr : tree_All.RR w base v xs) (h : w.grownBy w1 v.ownBlock) : tree_All.Fr g w w1 :=
 ⟨h.size, fun k hk _ ht => h.block k hk (fun e => by
  obtain ⟨inner, ho⟩ := Kd.R_own hr; obtain ⟨cells, hc⟩ := own_typed ho k e.symm
  exact ht cells hc)⟩
theorem tree_All.Fr.set {g : Nat} {w w1 : World} (h : tree_All.Fr g w w1) (j : Nat) (u : Value) : tree_All.Fr g w (w1.setCell ⟨g, j, none⟩ u) :=
 ⟨by simpa [World.setCell] using h.1, fun k hk hg ht => (Below.heap_setCell w1 ⟨g, j, none⟩ u k hg).trans (h.2 k hk hg ht)⟩
/-- A row of ints stays. -/
theorem tree_All.RI.fr {g base : Nat} {w w1 : World} {v : Value} {xs : List Int} {cs : Array Value} (hr : tree_All.RI w base v xs) (h : tree_All.Fr g w w1) (hg : w.heap[g]? = some (.cells cs 35 (0, 0))) : tree_All.RI w1 base v xs :=
 Kd.R_mono (Kd.R_step (Kd.R_bound hr) (fun k hk hlt => by
  obtain ⟨_, _, _, q, hq, cells, hc⟩ := hk; have hq3 : q = 3 := List.mem_singleton.1 hq; subst hq3; refine h.2 k hlt (fun e => ?_) (fun cs' hc' => ?_)
  ·subst e; rw [hc] at hg; injection hg with hg; injection hg with _ h2; exact absurd h2 (by decide)
  ·rw [hc] at hc'; injection hc' with hc'; injection hc' with _ h2; exact absurd h2 (by decide))) (fun _ hk => hk.1)
theorem tree_All.infoInt : (Try.prog.info? 3).map (fun i => (i.zero, i.size, i.bytes)) = some (some (.int .i64 0), 1, 8) := by kernel_rfl
theorem tree_All.infoRow : (Try.prog.info? 30).map (fun i => (i.zero, i.size, i.bytes)) = some (some (.slice none 0 0), 1, 24) := by kernel_rfl
/-- slices.Clone of a row of ints of the call's own. -/
theorem tree_All.clone (w : World) (base : Nat) (v : Value) (xs : List Int) (hl : xs.length ≤ 1000000) (h : tree_All.RI w base v xs) :
  Calls Try.prog 57 #[v] w fun e w' => ∃ v', e = .returned v' ∧ tree_All.RI w' w.heap.size v' xs ∧ Below w.heap.size w w' := by
 obtain ⟨A, c, rfl, hc, hC⟩ := Kd.R_reads h
 cases A with
 | none =>
  have h0 : xs = [] := by
   rcases Nat.eq_zero_or_pos xs.length with h0 | h0
   ·exact List.length_eq_zero_iff.mp h0
   ·obtain ⟨ad, e, _⟩ := Kd.at_int hC 0 (by omega) (by omega)
    cases e
  subst h0; refine (Try.slices_Clone_int_nil _ _ w).mono ?_; rintro e w' ⟨rfl, rfl⟩; exact ⟨_, rfl, Kd.R_nil _ _ _ _ _, Below.refl _ _⟩
 | some ad =>
  by_cases h0 : xs.length = 0
  ·have h1 := List.length_eq_zero_iff.mp h0; subst h1; refine (Try.slices_Clone_int_zero ad c w).mono ?_; rintro e w' ⟨v', rfl, ho, _, hb⟩; exact ⟨_, rfl, Kd.R_of_own (by simpa [encs] using ho) (fun _ _ => trivial), hb⟩
  ·obtain ⟨g, rfl⟩ := Kd.R_head h; refine (Try.slices_Clone_int g 0 xs.length c xs w (Nat.le_refl _) (by omega) (fun j hj => ?_)).mono ?_
   ·obtain ⟨ad', e, hx⟩ := Kd.at_int hC (j : Int) (by omega) (by omega)
    cases e
    rw [Int.toNat_natCast] at hx; rw [show (⟨g, 0, none⟩ : Addr).add j = ⟨g, j, none⟩ by unfold Addr.add; simp; try omega] at hx
    simpa [rd] using hx
   ·rintro e w' ⟨v', rfl, ho, _, hb⟩; rw [List.take_length] at ho; exact ⟨_, rfl, Kd.R_of_own (by simpa [encs] using ho) (fun _ _ => trivial), hb⟩
/-- append to a row of ints that is full. -/
theorem tree_All.grow_step {ops : Array Oper} {o : Oper} {a : Act} {K : Act → World → Prop} {Q : Exit → Act → World → Prop} {E : Prop} {W : World} {base : Nat} (hgd : o.guard = none) (s x : Operand) (hop : o.op = .call { callee := .builtin .append, args := #[s, x], argTypes := #[30, 30] })
  (A : Option Addr) (c : Nat) (xs : List Int) (i : Int) (hR : tree_All.RI W base (.slice A xs.length c) xs) (hs : a.eval s = .slice A xs.length xs.length) (bn : Nat) (hbn : bn = W.heap.size) (hx : a.eval x = .slice (some ⟨bn, 0, none⟩) 1 1) (hl : xs.length ≤ 1000000) (hbase : base ≤ W.heap.size)
  (hK : ∀ v1 w1, tree_All.RI w1 base v1 (xs ++ [i]) → Below W.heap.size W w1 → K (a.put o.dst v1) w1) :
  if Region.wanted o (yielded ops a.tmps) = true then Oper.wp Try.prog o a (W.alloc (.cells #[.int .i64 i] 3)) K Q else E := by
 subst hbn; obtain ⟨i0, hi, hz0, hz1, hz2⟩ := info_parts tree_All.infoInt; obtain ⟨A', c', e, hc, hC⟩ := Kd.R_reads hR; injection e with e1 _ e3; subst e1 e3; have hB := below_alloc (Below.refl W.heap.size W) (.cells #[.int .i64 i] 3); refine step_append_grows (w := W.alloc (.cells #[.int .i64 i] 3)) hgd s x 30 hop 3 i0 (.int .i64 0) 1 8 Try.underlying30 hi hz0 hz1 hz2 rfl (by decide) A xs.length xs.length (xs.map (Value.int .i64)) hs (fun e => ?_) (by simp) (fun b e j u hj => ?_) ⟨W.heap.size, 0, none⟩ 1 1 [.int .i64 i] hx rfl (fun j u hj => ?_) (fun u hu => ?_) (by omega) (by unfold maxLen; omega) (by omega) (fun v1 w1 ho hg => hK v1 w1 ?_ ?_)
 ·subst e
  rcases Nat.eq_zero_or_pos xs.length with h0 | h0
  ·exact ⟨h0, h0⟩
  ·obtain ⟨ad, e, _⟩ := Kd.at_int hC 0 (by omega) (by omega)
   cases e
 ·subst e
  have hj' : j < xs.length := by
   have := (List.getElem?_eq_some_iff.1 hj).1
   simpa using this
  obtain ⟨ad', e, hx2⟩ := Kd.at_int hC (j : Int) (by omega) (by omega)
  cases e
  rw [Int.toNat_natCast] at hx2; rw [List.getElem?_map, List.getElem?_eq_getElem hj'] at hj; simp only [Option.map_some, Option.some.injEq] at hj; subst hj; refine (hB.cell (World.block_lt_of_cell? W _ hx2)).trans (hx2.trans ?_)
  simp [rd, hj']
 ·match j, hj with
  | 0, hj =>
   simp only [List.getElem?_cons_zero, Option.some.injEq] at hj; subst hj; rw [show (⟨W.heap.size, 0, none⟩ : Addr).add 0 = ⟨W.heap.size, 0, none⟩ from rfl, Lib.cell_of_heap (blk_new _ _)]; rfl
 ·rw [List.mem_singleton.1 hu]; rfl
 ·exact Kd.R_of_own (own_weaken (by simpa [encs] using ho) (Nat.le_trans hbase hB.size)) (fun _ _ => trivial)
 ·refine hB.trans ?_; exact ⟨hg.os, hg.tape, hg.output, hg.size, fun k hk => hg.block k (Nat.lt_of_lt_of_le hk hB.size) (by simp)⟩
/-- What the literal in All does at a Node: the rows in block g grow. -/
def tree_All.Holds (w0 : World) (kind : Int) (g b3 b7 m : Nat) : Prop := ∀ (n : S26) (A : Option Addr) (cc : Nat) (here : List Int) (v2 : Value) (out : List (List Int)) (vo : Value) (r : List (List Int)) (w : World), n.f2.length ≤ cc → Kd.C k26 w0 A n.f2.length n.f2 → tree_All.RI w w0.heap.size v2 here →
 w.heap[g]? = some (.cells #[vo] 35 (0, 0)) → tree_All.RR w w0.heap.size vo out → w.heap[b3]? = some (.cells #[.int .i64 kind] 3 (0, 0)) → w.heap[b7]? = some (.cells #[(.func (.func 56) #[] #[.pointer (some ⟨b3, 0, none⟩), .pointer (some ⟨g, 0, none⟩), .pointer (some ⟨b7, 0, none⟩)])] 88 (0, 0)) → w0.heap.size ≤ g → b3 ≠ g → b7 ≠ g → Below w0.heap.size w0 w → tree_All.go kind m n here out = some r →
 Calls Try.prog 56 #[.agg #[.int .i64 n.f0, .int .i64 n.f1.f0, .string n.f1.f1, .slice A n.f2.length cc], v2, .pointer (some ⟨b3, 0, none⟩), .pointer (some ⟨g, 0, none⟩), .pointer (some ⟨b7, 0, none⟩)] w fun e w' => e = .returned (.tuple #[]) ∧ ∃ vo', w'.heap[g]? = some (.cells #[vo'] 35 (0, 0)) ∧ tree_All.RR w' w0.heap.size vo' r ∧ Below w0.heap.size w0 w' ∧ tree_All.Fr g w w'
set_option maxHeartbeats 16000000 in
set_option maxRecDepth 100000 in
theorem tree_All.walk_ok (w0 : World) (kind : Int) (g b3 b7 : Nat) : ∀ m, tree_All.Holds w0 kind g b3 b7 m := by
 have hu := Try.underlying26; intro m
 induction m with
 | zero =>
  intro n A cc here v2 out vo r w _ _ _ _ _ _ _ _ _ _ _ h
  simp [tree_All.go] at h
 | succ m ih =>
  intro n A cc here v2 out vo r w hcc hC hRI hG hRR h3 h7 hg n3 n7 hB h; rw [tree_All.go] at h; obtain ⟨hlh, h⟩ := Ut.ite_some h; obtain ⟨hlo, h⟩ := Ut.ite_some h; obtain ⟨A2, c2, e2, hc2, _⟩ := Kd.R_reads hRI; subst e2; have HC := Aside0.mk hC; have IH := Aside0.mk ih; have hmax : n.f2.length ≤ 9223372036854775807 := hC.2.1; have hgl := blk_lt hG; have HNG := Aside0.mk (And.intro hg (And.intro n3 n7)); have hA := below_alloc (Below.refl w.heap.size w) (.cells #[.int .i64 n.f0, .int .i64 n.f1.f0, .string n.f1.f1, .slice A n.f2.length cc] 26); have HB1 := Aside0.mk (below_alloc hB (.cells #[.int .i64 n.f0, .int .i64 n.f1.f0, .string n.f1.f1, .slice A n.f2.length cc] 26)); have HF1 := Aside0.mk (tree_All.Fr.below (g := g) hA); have HG1 := Aside0.mk (blk_alloc hG (.cells #[.int .i64 n.f0, .int .i64 n.f1.f0, .string n.f1.f1, .slice A n.f2.length cc] 26)); have HR1 := Aside0.mk (Kd.R_alloc hRR (.cells #[.int .i64 n.f0, .int .i64 n.f1.f0, .string n.f1.f1, .slice A n.f2.length cc] 26)); have HI1 := Aside0.mk (Kd.R_alloc hRI (.cells #[.int .i64 n.f0, .int .i64 n.f1.f0, .string n.f1.f1, .slice A n.f2.length cc] 26)); have H31 := Aside0.mk (blk_alloc h3 (.cells #[.int .i64 n.f0, .int .i64 n.f1.f0, .string n.f1.f1, .slice A n.f2.length cc] 26)); have H71 := Aside0.mk (blk_alloc h7 (.cells #[.int .i64 n.f0, .int .i64 n.f1.f0, .string n.f1.f1, .slice A n.f2.length cc] 26)); have HN1 := Aside0.mk (blk_new w (.cells #[.int .i64 n.f0, .int .i64 n.f1.f0, .string n.f1.f1, .slice A n.f2.length cc] 26)); have hsz := hB.size
  have hng : w.heap.size ≠ g := (by omega)
  have H := Aside0.mk h; clear hC ih hRI hG hRR h3 h7 hB hA n3 n7 h; go_enter Try.func56, Try.ntmps56; have e3 : (w.alloc (.cells #[.int .i64 n.f0, .int .i64 n.f1.f0, .string n.f1.f1, .slice A n.f2.length cc] 26)).cell? ⟨b3, 0, none⟩ = some (.int .i64 kind) := Lib.cell_of_heap H31.out 0
  go_upto_if 12 with fail
  go_cut [] (fun wc => ∃ (o : List (List Int)) (vp : Value), Aside0 (tree_All.kids (tree_All.go kind m) n.f2 0 here o = some r) ∧ Aside0 (wc.heap[w.heap.size]? = some (.cells #[.int .i64 n.f0, .int .i64 n.f1.f0, .string n.f1.f1, .slice A n.f2.length cc] 26 (0, 0))) ∧ Aside0 (wc.heap[g]? = some (.cells #[vp] 35 (0, 0))) ∧ Aside0 (tree_All.RR wc w0.heap.size vp o) ∧ Aside0 (tree_All.RI wc w0.heap.size (.slice A2 here.length c2) here) ∧ Aside0 (wc.heap[b3]? = some (.cells #[.int .i64 kind] 3 (0, 0))) ∧ Aside0 (wc.heap[b7]? = some (.cells #[(.func (.func 56) #[] #[.pointer (some ⟨b3, 0, none⟩), .pointer (some ⟨g, 0, none⟩), .pointer (some ⟨b7, 0, none⟩)])] 88 (0, 0))) ∧ Aside0 (Below w0.heap.size w0 wc) ∧ Aside0 (tree_All.Fr g w wc))
  case first =>
   have h := H.out; by_cases c : n.f0 = kind
   ·rw [if_pos c] at h; have HH := Aside0.mk h; have cb : (n.f0 == kind) = true := beq_iff_eq.mpr c; clear c h H; have eg : (w.alloc (.cells #[.int .i64 n.f0, .int .i64 n.f1.f0, .string n.f1.f1, .slice A n.f2.length cc] 26)).cell? ⟨g, 0, none⟩ = some vo := Lib.cell_of_heap HG1.out 0; have CL := Aside0.mk (tree_All.clone (w.alloc (.cells #[.int .i64 n.f0, .int .i64 n.f1.f0, .string n.f1.f1, .slice A n.f2.length cc] 26)).drew w0.heap.size (.slice A2 here.length c2) here (by omega) (Kd.R_drew HI1.out))
    have HO3 : ∀ w3, Below (w.alloc (.cells #[.int .i64 n.f0, .int .i64 n.f1.f0, .string n.f1.f1, .slice A n.f2.length cc] 26)).drew.heap.size (w.alloc (.cells #[.int .i64 n.f0, .int .i64 n.f1.f0, .string n.f1.f1, .slice A n.f2.length cc] 26)).drew w3 → tree_All.RR w3 w0.heap.size vo out := fun w3 hb => Kd.R_below (Kd.R_drew HR1.out) hb
    have HB3 : ∀ w3, Below (w.alloc (.cells #[.int .i64 n.f0, .int .i64 n.f1.f0, .string n.f1.f1, .slice A n.f2.length cc] 26)).drew.heap.size (w.alloc (.cells #[.int .i64 n.f0, .int .i64 n.f1.f0, .string n.f1.f1, .slice A n.f2.length cc] 26)).drew w3 → Below w0.heap.size w0 w3 := fun w3 hb => (below_drew1 HB1.out).trans (hb.mono (by have := HB1.out.size; have : (w.alloc (.cells #[.int .i64 n.f0, .int .i64 n.f1.f0, .string n.f1.f1, .slice A n.f2.length cc] 26)).drew.heap.size = (w.alloc (.cells #[.int .i64 n.f0, .int .i64 n.f1.f0, .string n.f1.f1, .slice A n.f2.length cc] 26)).heap.size := rfl; omega))
    have HG3 : ∀ w3, Below (w.alloc (.cells #[.int .i64 n.f0, .int .i64 n.f1.f0, .string n.f1.f1, .slice A n.f2.length cc] 26)).drew.heap.size (w.alloc (.cells #[.int .i64 n.f0, .int .i64 n.f1.f0, .string n.f1.f1, .slice A n.f2.length cc] 26)).drew w3 → w3.heap[g]? = some (.cells #[vo] 35 (0, 0)) := fun w3 hb => blk_below (blk_drew HG1.out) hb
    have HP3 : ∀ v3 w3, tree_All.RI w3 (w.alloc (.cells #[.int .i64 n.f0, .int .i64 n.f1.f0, .string n.f1.f1, .slice A n.f2.length cc] 26)).drew.heap.size v3 here → Kd.R (Kd.int .i64) 3 w3 w0.heap.size (fun k => some k ≠ vo.ownBlock) v3 here := fun v3 w3 hr => Kd.R_mono (Kd.R_lower (Kd.R_newR hr (Kd.R_drew HR1.out)) (by have := HB1.out.size; have : (w.alloc (.cells #[.int .i64 n.f0, .int .i64 n.f1.f0, .string n.f1.f1, .slice A n.f2.length cc] 26)).drew.heap.size = (w.alloc (.cells #[.int .i64 n.f0, .int .i64 n.f1.f0, .string n.f1.f1, .slice A n.f2.length cc] 26)).heap.size := rfl; omega)) (fun _ hk => hk.2)
    go_wp2_with fail
    go_region_law (first | (go_simp; go_at_call 57; refine CL.out.mono ?_; rintro e w3 ⟨v3, rfl, hr3, hb3⟩; obtain ⟨A3, c3, hv3, _, _⟩ := Kd.R_reads hr3; subst hv3; have hcg : w3.cell? ⟨g, 0, none⟩ = some vo := Lib.cell_of_heap (HG3 w3 hb3) 0; have hcg2 : (w3.alloc (.cells #[.slice A3 here.length c3] 30)).cell? ⟨g, 0, none⟩ = some vo := Lib.cell_of_heap (blk_alloc (HG3 w3 hb3) _) 0) | (refine Kd.R_append_step (Kd.slice 3 (Kd.int .i64)) w0.heap.size (w0 := w0) (by rfl) (.tmp 13) (.tmp 16) 35 30 (.slice none 0 0) 24 rfl Try.underlying35 tree_All.infoRow rfl (by decide) (by omega) vo out here [.slice A3 here.length c3] (fun _ => True) (fun k => some k ≠ vo.ownBlock) rfl rfl ⟨_, rfl, HP3 _ w3 hr3⟩ (fun k hk => ⟨trivial, hk⟩) (fun _ _ => trivial) (HO3 w3 hb3) (HB3 w3 hb3) (HB3 w3 hb3).size (by omega) ?_; intro v4 w4 hr4 hb4 hg4 hat4; obtain ⟨A4, c4, hv4, _, _⟩ := Kd.R_reads hr4; obtain ⟨n4, hn4⟩ : ∃ n, Aside0 (n = (out ++ [here]).length) := ⟨_, ⟨rfl⟩⟩; rw [← hn4.out] at hv4; subst hv4; have hst := blk_grown (HG3 w3 hb3) hg4 (Kd.R_ne (HO3 w3 hb3) (HG3 w3 hb3) (by decide)); have hct : w4.cell? ⟨g, 0, none⟩ = some vo := Lib.cell_of_heap hst 0; have hft := Lib.frozen_of_heap hst 0))
    all_goals
     have HG5 := Aside0.mk (blk_put (cs' := #[.slice A4 n4 c4]) hst 0 (.slice A4 n4 c4) rfl); have HO5 := Aside0.mk (Kd.R_set hr4 hst (by intro q hq e; subst e; revert hq; decide) 0 (.slice A4 n4 c4)); have HB5 := Aside0.mk (hb4.setCell (p := ⟨g, 0, none⟩) HNG.out.1 (.slice A4 n4 c4)); have HF51 := Aside0.mk (tree_All.Fr.set (tree_All.Fr.trans (tree_All.Fr.below (g := g) (show Below (w.alloc (.cells #[.int .i64 n.f0, .int .i64 n.f1.f0, .string n.f1.f1, .slice A n.f2.length cc] 26)).heap.size (w.alloc (.cells #[.int .i64 n.f0, .int .i64 n.f1.f0, .string n.f1.f1, .slice A n.f2.length cc] 26)) w3 from (below_drew1 (Below.refl _ _)).trans hb3)) (tree_All.Fr.grown (HO3 w3 hb3) hg4)) 0 (.slice A4 n4 c4)); have HF5 := Aside0.mk (tree_All.Fr.trans HF1.out HF51.out); have HI5 := Aside0.mk (tree_All.RI.fr HI1.out HF51.out HG1.out); have H35 := Aside0.mk (tree_All.Fr.blk HF51.out H31.out (by decide) HNG.out.2.1); have H75 := Aside0.mk (tree_All.Fr.blk HF51.out H71.out (by decide) HNG.out.2.2); have HN5 := Aside0.mk (tree_All.Fr.blk HF51.out HN1.out (by decide) hng)
     (try go_wp2_with fail)
     go_meet
     case rel => exact ⟨_, _, HH, HN5, HG5, HO5, HI5, H35, H75, HB5, HF5⟩
   ·rw [if_neg c] at h; have HH := Aside0.mk h; have cb : (n.f0 == kind) = false := beq_eq_false_iff_ne.mpr c; clear c h H; go_wp2_with fail
    go_meet
    case rel => exact ⟨_, _, HH, HN1, HG1, HR1, HI1, H31, H71, HB1, HF1⟩
  case rest =>
   clear HB1 HF1 HG1 HR1 HI1 H31 H71 HN1 H e3; obtain ⟨o0, vp0, HH, HN, HG, HR, HI, H3, H7, HB, HF⟩ := hcut; have z5 : wc.cell? ⟨w.heap.size, 3, none⟩ = some (.slice A n.f2.length cc) := Lib.cell_of_heap HN.out 3; go_wp2_with fail
   go_loopg [21] n.f2.length (fun kq v21 w' => ∃ (i : Nat) (o : List (List Int)) (vp : Value), v21 = .int .i64 (i : Int) ∧ Aside0 (i + kq = n.f2.length) ∧ Aside0 (tree_All.kids (tree_All.go kind m) (n.f2.drop i) i here o = some r) ∧ Aside0 (w'.heap[g]? = some (.cells #[vp] 35 (0, 0))) ∧ Aside0 (tree_All.RR w' w0.heap.size vp o) ∧ Aside0 (tree_All.RI w' w0.heap.size (.slice A2 here.length c2) here) ∧ Aside0 (w'.heap[b3]? = some (.cells #[.int .i64 kind] 3 (0, 0))) ∧ Aside0 (w'.heap[b7]? = some (.cells #[(.func (.func 56) #[] #[.pointer (some ⟨b3, 0, none⟩), .pointer (some ⟨g, 0, none⟩), .pointer (some ⟨b7, 0, none⟩)])] 88 (0, 0))) ∧ Aside0 (Below w0.heap.size w0 w') ∧ Aside0 (tree_All.Fr g w w'))
   case atStart => exact ⟨0, _, _, rfl, ⟨by omega⟩, HH, HG, HR, HI, H3, H7, HB, HF⟩
   case round =>
    clear HH HN HG HR HI H3 H7 HB HF z5; obtain ⟨i, o, vp, rfl, HK, HH, HG, HR, HI, H3, H7, HB, HF⟩ := hrel; by_cases hlt : i < n.f2.length
    ·have hd1 : decide ((i : Int) < (n.f2.length : Int)) = true := decide_eq_true (by omega); have H := HH.out; rw [List.drop_eq_getElem_cons hlt] at H; simp only [tree_All.kids] at H; obtain ⟨o', ho', Hn⟩ := Option.bind_eq_some_iff.mp H; clear H HH
     have hrd : rd_T26 n.f2 (i : Int) = n.f2[i] := (by simp [rd_T26, hlt])
     obtain ⟨ad, A3, c3, e, hx0, hx1, hx2, hx3, hl3, hC3⟩ := at_T26 HC.out (i : Int) (by omega) (by omega); rw [hrd] at hx0 hx1 hx2 hx3 hl3 hC3; rw [Int.toNat_natCast] at hx0 hx1 hx2 hx3; subst e; replace hx0 := (HB.out.cell (World.block_lt_of_cell? w0 _ hx0)).trans hx0; replace hx1 := (HB.out.cell (World.block_lt_of_cell? w0 _ hx1)).trans hx1; replace hx2 := (HB.out.cell (World.block_lt_of_cell? w0 _ hx2)).trans hx2; replace hx3 := (HB.out.cell (World.block_lt_of_cell? w0 _ hx3)).trans hx3; clear hrd; generalize n.f2[i] = x at *; have HO' := Aside0.mk ho'; have HH2 := Aside0.mk Hn; have HC3 := Aside0.mk (And.intro hC3 hl3); clear ho' Hn hC3 hl3
     cases gk with
     | zero => exact absurd hlt (by have := HK.out; omega)
     | succ kq' =>
     go_upto_region 6 with fail
     clear hx0 hx1 hx2 hx3 hd1
     have HW2 : Aside0 (Below wr.heap.size wr (wr.alloc (.cells #[.int .i64 x.f0, .int .i64 x.f1.f0, .string x.f1.f1, .slice A3 x.f2.length c3] 26))) := ⟨below_alloc (Below.refl _ _) _⟩
     have HX2 := Aside0.mk (blk_new wr (.cells #[.int .i64 x.f0, .int .i64 x.f1.f0, .string x.f1.f1, .slice A3 x.f2.length c3] 26))
     have HS2 : Aside0 ((wr.alloc (.cells #[.int .i64 x.f0, .int .i64 x.f1.f0, .string x.f1.f1, .slice A3 x.f2.length c3] 26)).heap.size = wr.heap.size + 1) := ⟨by simp⟩
     have HI2 := Aside0.mk (Kd.R_alloc HI.out (.cells #[.int .i64 x.f0, .int .i64 x.f1.f0, .string x.f1.f1, .slice A3 x.f2.length c3] 26)); generalize wr.alloc (.cells #[.int .i64 x.f0, .int .i64 x.f1.f0, .string x.f1.f1, .slice A3 x.f2.length c3] 26) = W2 at *; have f7 : W2.cell? ⟨b7, 0, none⟩ = some (.func (.func 56) #[] #[.pointer (some ⟨b3, 0, none⟩), .pointer (some ⟨g, 0, none⟩), .pointer (some ⟨b7, 0, none⟩)]) := Lib.cell_of_heap (blk_below H7.out HW2.out) 0; have f7a : (W2.alloc (.cells #[.int .i64 (i : Int)] 3)).cell? ⟨b7, 0, none⟩ = some (.func (.func 56) #[] #[.pointer (some ⟨b3, 0, none⟩), .pointer (some ⟨g, 0, none⟩), .pointer (some ⟨b7, 0, none⟩)]) := Lib.cell_of_heap (blk_alloc (blk_below H7.out HW2.out) _) 0; have y0 : W2.cell? ⟨wr.heap.size, 0, none⟩ = some (.int .i64 x.f0) := Lib.cell_of_heap HX2.out 0; have u0 : (W2.alloc (.cells #[.int .i64 (i : Int)] 3)).cell? ⟨wr.heap.size, 0, none⟩ = some (.int .i64 x.f0) := Lib.cell_of_heap (blk_alloc HX2.out _) 0; have y1 : W2.cell? ⟨wr.heap.size, 1, none⟩ = some (.int .i64 x.f1.f0) := Lib.cell_of_heap HX2.out 1; have u1 : (W2.alloc (.cells #[.int .i64 (i : Int)] 3)).cell? ⟨wr.heap.size, 1, none⟩ = some (.int .i64 x.f1.f0) := Lib.cell_of_heap (blk_alloc HX2.out _) 1; have y2 : W2.cell? ⟨wr.heap.size, 2, none⟩ = some (.string x.f1.f1) := Lib.cell_of_heap HX2.out 2; have u2 : (W2.alloc (.cells #[.int .i64 (i : Int)] 3)).cell? ⟨wr.heap.size, 2, none⟩ = some (.string x.f1.f1) := Lib.cell_of_heap (blk_alloc HX2.out _) 2; have y3 : W2.cell? ⟨wr.heap.size, 3, none⟩ = some (.slice A3 x.f2.length c3) := Lib.cell_of_heap HX2.out 3; have u3 : (W2.alloc (.cells #[.int .i64 (i : Int)] 3)).cell? ⟨wr.heap.size, 3, none⟩ = some (.slice A3 x.f2.length c3) := Lib.cell_of_heap (blk_alloc HX2.out _) 3; have KB := Aside0.mk (fun w5 (hb : Below W2.drew.heap.size W2.drew w5) => (show Below wr.heap.size wr w5 from HW2.out.trans ((below_drew1 (Below.refl W2.heap.size W2)).trans hb |>.mono HW2.out.size))); have hbs : w0.heap.size ≤ W2.drew.heap.size := Nat.le_trans HB.out.size HW2.out.size; have HLL := Aside0.mk (show here.length ≤ 1000000 by omega); clear hgl hsz hng hlo hlh hcc
     go_region_law (first | (refine tree_All.grow_step (W := W2.drew) (base := w0.heap.size) rfl (.tmp 33) (.tmp 35) rfl A2 c2 here (i : Int) (Kd.R_drew HI2.out) rfl W2.heap.size rfl rfl HLL.out hbs ?_; intro v5 w5 hr5 hb5; have f75 : w5.cell? ⟨b7, 0, none⟩ = some (.func (.func 56) #[] #[.pointer (some ⟨b3, 0, none⟩), .pointer (some ⟨g, 0, none⟩), .pointer (some ⟨b7, 0, none⟩)]) := Lib.cell_of_heap (blk_below H7.out (KB.out w5 hb5)) 0; have s0 : w5.cell? ⟨wr.heap.size, 0, none⟩ = some (.int .i64 x.f0) := Lib.cell_of_heap (blk_below (blk_drew HX2.out) hb5) 0; have s1 : w5.cell? ⟨wr.heap.size, 1, none⟩ = some (.int .i64 x.f1.f0) := Lib.cell_of_heap (blk_below (blk_drew HX2.out) hb5) 1; have s2 : w5.cell? ⟨wr.heap.size, 2, none⟩ = some (.string x.f1.f1) := Lib.cell_of_heap (blk_below (blk_drew HX2.out) hb5) 2; have s3 : w5.cell? ⟨wr.heap.size, 3, none⟩ = some (.slice A3 x.f2.length c3) := Lib.cell_of_heap (blk_below (blk_drew HX2.out) hb5) 3) | (go_simp; go_at_call 56; refine (IH.out x A3 c3 (here ++ [(i : Int)]) v5 o vp o' w5 HC3.out.2 HC3.out.1 hr5 (blk_below HG.out (KB.out w5 hb5)) (Kd.R_below HR.out (KB.out w5 hb5)) (blk_below H3.out (KB.out w5 hb5)) (blk_below H7.out (KB.out w5 hb5)) HNG.out.1 HNG.out.2.1 HNG.out.2.2 (HB.out.trans ((KB.out w5 hb5).mono HB.out.size)) HO'.out).mono ?_; rintro e w6 ⟨rfl, vo6, hg6, hr6, hb6, hf6⟩))
     all_goals
      have HFx := Aside0.mk (tree_All.Fr.trans (tree_All.Fr.below (g := g) (KB.out w5 hb5)) hf6); have HG6 := Aside0.mk hg6; have HR6 := Aside0.mk hr6; have HB6 := Aside0.mk hb6; clear f75 f7 f7a s0 s1 s2 s3 y0 y1 y2 y3 u0 u1 u2 u3 hr5 hb5 hg6 hr6 hb6 hf6 hbs; go_wp2_with fail
      go_roundg kq'
      case measure => omega
      case rel => exact ⟨i + 1, o', vo6, by go_num, ⟨by have := HK.out; omega⟩, HH2, HG6, HR6, ⟨tree_All.RI.fr HI.out HFx.out HG.out⟩, ⟨tree_All.Fr.blk HFx.out H3.out (by decide) HNG.out.2.1⟩, ⟨tree_All.Fr.blk HFx.out H7.out (by decide) HNG.out.2.2⟩, HB6, ⟨tree_All.Fr.trans HF.out HFx.out⟩⟩
    ·have hd1 : decide ((i : Int) < (n.f2.length : Int)) = false := decide_eq_false (by omega); have H := HH.out; rw [List.drop_of_length_le (by have := HK.out; omega)] at H; simp only [tree_All.kids, Option.some.injEq] at H; subst H; go_wp2_with fail; go_end0; exact ⟨rfl, vp, HG.out, HR.out, HB.out, HF.out⟩
theorem tree_All.run_store_func (P : Program) (w : World) (a : Addr) (f : Fn) (cs lb : Array Value) (m : Mode) : (store a (.func f cs lb) m).run P w = stored P w a (.func f cs lb) m := run_store P w a _ m rfl
attribute [local go_sem] tree_All.run_store_func
theorem tree_All.second (w : World) (o1 : Obj) (o2 : Obj) : Aside0 (((w.alloc o1).alloc o2).heap[w.heap.size + 1]? = some o2) := ⟨by
 have := blk_new (w.alloc o1) o2
 simpa using this⟩
set_option maxHeartbeats 8000000 in
set_option maxRecDepth 100000 in
theorem tree_All.calls (k : Nat) (a0_0 : Int) (a0_1 : Int) (a0_2 : ByteArray) (A0_3 : Option Addr) (c0_3 : Nat) (l0_3 : List (S26)) (a1 : Int) (r1 : List (List Int)) (r2 : Int) (w : World) (hr0_3 : Kd.C k26 w A0_3 l0_3.length l0_3) (hc0_3 : l0_3.length ≤ c0_3) (h : tree_All.f k a0_0 a0_1 a0_2 l0_3 a1 = some (r1, r2)) :
  Calls Try.prog 18 #[.agg #[.int .i64 a0_0, .int .i64 a0_1, .string a0_2, .slice A0_3 l0_3.length c0_3], .int .i64 a1] w fun e w' => ∃ v0_ : Value, e = .returned (.tuple #[v0_, .int .i64 r2]) ∧ Kd.R (Kd.slice 3 (Kd.int .i64)) 30 w' w.heap.size (fun _ => True) v0_ r1 ∧ Below w.heap.size w w' := by
 have hu := Try.underlying26; unfold tree_All.f at h; obtain ⟨b, hb, h⟩ := Option.bind_eq_some_iff.mp h; have HF := Aside0.mk hb; have HR := Aside0.mk hr0_3; have hB1 := below_alloc (below_alloc (Below.refl w.heap.size w) (.cells #[.int .i64 a0_0, .int .i64 a0_1, .string a0_2, .slice A0_3 l0_3.length c0_3] 26)) (.cells #[.int .i64 a1] 3); have HB := Aside0.mk hB1; have HN := Aside0.mk (blk_alloc (blk_new w (.cells #[.int .i64 a0_0, .int .i64 a0_1, .string a0_2, .slice A0_3 l0_3.length c0_3] 26)) (.cells #[.int .i64 a1] 3))
 have H3 : Aside0 (((w.alloc (.cells #[.int .i64 a0_0, .int .i64 a0_1, .string a0_2, .slice A0_3 l0_3.length c0_3] 26)).alloc (.cells #[.int .i64 a1] 3)).heap[w.heap.size + 1]? = some (.cells #[.int .i64 a1] 3 (0, 0))) := ⟨by
  have := blk_new (w.alloc (.cells #[.int .i64 a0_0, .int .i64 a0_1, .string a0_2, .slice A0_3 l0_3.length c0_3] 26)) (.cells #[.int .i64 a1] 3)
  simpa using this⟩
 clear hb hr0_3 hB1
 cases b with
 | false =>
  rw [if_neg (by decide)] at h; simp only [Option.some.injEq, Prod.mk.injEq] at h; obtain ⟨rfl, rfl⟩ := h; go_enter Try.func18, Try.ntmps18
  go_wp2_with (go_at_call 30; refine (tree_IsFormed.calls k _ _ _ _ _ _ _ _ (Kd.C_below HR.out HB.out) hc0_3 HF.out).mono ?_; rintro e w1 ⟨rfl, hb⟩; have HB1 := Aside0.mk (token_good.step HB.out hb); clear hb)
  go_ret2
  exact ⟨_, rfl, Kd.R_nil _ _ _ _ _, HB1.out⟩
 | true =>
  rw [if_pos rfl] at h; obtain ⟨l, hl, h⟩ := Option.bind_eq_some_iff.mp h; simp only [Option.some.injEq, Prod.mk.injEq] at h; obtain ⟨rfl, rfl⟩ := h; have HL := Aside0.mk hl; clear hl; go_enter Try.func18, Try.ntmps18
  go_wp2_with (go_at_call 30; refine (tree_IsFormed.calls k _ _ _ _ _ _ _ _ (Kd.C_below HR.out HB.out) hc0_3 HF.out).mono ?_; rintro e w1 ⟨rfl, hb⟩; have HB1 := Aside0.mk (token_good.step HB.out hb); have HN1 := Aside0.mk (blk_below HN.out hb); have H31 := Aside0.mk (blk_below H3.out hb); have z0 : w1.cell? ⟨w.heap.size, 0, none⟩ = some (.int .i64 a0_0) := Lib.cell_of_heap HN1.out 0; have z1 : w1.cell? ⟨w.heap.size, 1, none⟩ = some (.int .i64 a0_1) := Lib.cell_of_heap HN1.out 1; have z2 : w1.cell? ⟨w.heap.size, 2, none⟩ = some (.string a0_2) := Lib.cell_of_heap HN1.out 2; have z3 : w1.cell? ⟨w.heap.size, 3, none⟩ = some (.slice A0_3 l0_3.length c0_3) := Lib.cell_of_heap HN1.out 3; have HFb : Aside0 (((w1.alloc (.cells #[.slice none 0 0] 35)).alloc (.cells #[.nilFunc] 88)).heap[w1.heap.size + 1]? = some (.cells #[.nilFunc] 88 (0, 0))) := tree_All.second w1 _ _; have cF : ((w1.alloc (.cells #[.slice none 0 0] 35)).alloc (.cells #[.nilFunc] 88)).cell? ⟨w1.heap.size + 1, 0, none⟩ = some .nilFunc := Lib.cell_of_heap HFb.out 0; have fF := Lib.frozen_of_heap HFb.out 0; have hsz : w.heap.size + 2 ≤ w1.heap.size := (by have hq := hb.size; simp at hq; omega); have q0 : ((w1.alloc (.cells #[.slice none 0 0] 35)).alloc (.cells #[(.func (.func 56) #[] #[.pointer (some ⟨w.heap.size + 1, 0, none⟩), .pointer (some ⟨w1.heap.size, 0, none⟩), .pointer (some ⟨w1.heap.size + 1, 0, none⟩)])] 88)).cell? ⟨w.heap.size, 0, none⟩ = some (.int .i64 a0_0) := Lib.cell_of_heap (blk_alloc (blk_alloc HN1.out _) _) 0; have q1 : ((w1.alloc (.cells #[.slice none 0 0] 35)).alloc (.cells #[(.func (.func 56) #[] #[.pointer (some ⟨w.heap.size + 1, 0, none⟩), .pointer (some ⟨w1.heap.size, 0, none⟩), .pointer (some ⟨w1.heap.size + 1, 0, none⟩)])] 88)).cell? ⟨w.heap.size, 1, none⟩ = some (.int .i64 a0_1) := Lib.cell_of_heap (blk_alloc (blk_alloc HN1.out _) _) 1; have q2 : ((w1.alloc (.cells #[.slice none 0 0] 35)).alloc (.cells #[(.func (.func 56) #[] #[.pointer (some ⟨w.heap.size + 1, 0, none⟩), .pointer (some ⟨w1.heap.size, 0, none⟩), .pointer (some ⟨w1.heap.size + 1, 0, none⟩)])] 88)).cell? ⟨w.heap.size, 2, none⟩ = some (.string a0_2) := Lib.cell_of_heap (blk_alloc (blk_alloc HN1.out _) _) 2; have q3 : ((w1.alloc (.cells #[.slice none 0 0] 35)).alloc (.cells #[(.func (.func 56) #[] #[.pointer (some ⟨w.heap.size + 1, 0, none⟩), .pointer (some ⟨w1.heap.size, 0, none⟩), .pointer (some ⟨w1.heap.size + 1, 0, none⟩)])] 88)).cell? ⟨w.heap.size, 3, none⟩ = some (.slice A0_3 l0_3.length c0_3) := Lib.cell_of_heap (blk_alloc (blk_alloc HN1.out _) _) 3; have HCall := Aside0.mk (tree_All.walk_ok w a1 w1.heap.size (w.heap.size + 1) (w1.heap.size + 1) k ⟨a0_0, ⟨a0_1, a0_2⟩, l0_3⟩ A0_3 c0_3 [] (.slice none 0 0) [] (.slice none 0 0) l ((w1.alloc (.cells #[.slice none 0 0] 35)).alloc (.cells #[(.func (.func 56) #[] #[.pointer (some ⟨w.heap.size + 1, 0, none⟩), .pointer (some ⟨w1.heap.size, 0, none⟩), .pointer (some ⟨w1.heap.size + 1, 0, none⟩)])] 88)) hc0_3 HR.out (Kd.R_nil _ _ _ _ _) (blk_alloc (blk_new w1 _) _) (Kd.R_nil _ _ _ _ _) (blk_alloc (blk_alloc H31.out _) _) (tree_All.second w1 _ _).out (by omega) (by omega) (by omega) (below_alloc (below_alloc HB1.out _) _) HL.out); clear hb)
  refine HCall.out.mono ?_; rintro e w9 ⟨rfl, v9, h1, h2, h3, h4⟩; have e9 : w9.cell? ⟨w1.heap.size, 0, none⟩ = some v9 := Lib.cell_of_heap h1 0; have H2 := Aside0.mk h2; have H3 := Aside0.mk h3; clear h1 h2 h3 h4; go_wp2_with fail
  go_ret2
  exact ⟨_, rfl, H2.out, H3.out⟩

end Go.Proofs.Ytnafnieocpkkhaa.P

