/- What the claim's row needs of the seat's texts, part 3: put together by a program of this session (declarations that no text of the claim names are left out). -/

import Derived.Test.YtnafnieocpkkhaaH2
namespace Go.Proofs.Ytnafnieocpkkhaa.P
open Go.RowKit Go.Proofs.YtnafnieocpkkhaaW.PrintWords Go.Proofs.YtnafnieocpkkhaaW.PrintLast Go.Proofs.YtnafnieocpkkhaaW.PrintMore
attribute [local go_sem] max2_int min2_int max_two min_two max_three min_three max_four min_four
set_option linter.unusedVariables false
set_option linter.unusedSimpArgs false

/-! ### tree_At: function 49 -/
def tree_At.f (k : Nat) (a0_0 : Int) (a0_1 : Int) (a0_2 : ByteArray) (l0_3 : List (S26)) (l1 : List Int) : Option (Int × Int × ByteArray × (List (S26)) × Int) := (tree_find.f k a0_0 a0_1 a0_2 l0_3 l1).bind fun bt551 => (if bt551.2.2.2.2.2 = 0 then ((tree_Clone.f k bt551.1 bt551.2.1 bt551.2.2.1 bt551.2.2.2.1).bind fun bt560 => (some (bt560.1, bt560.2.1, bt560.2.2.1, bt560.2.2.2, 0))) else (some (0, 0, (⟨#[]⟩ : ByteArray), ([] : List (S26)), bt551.2.2.2.2.2)))
set_option maxHeartbeats 8000000 in
set_option maxRecDepth 100000 in
theorem tree_At.calls (k : Nat) (a0_0 : Int) (a0_1 : Int) (a0_2 : ByteArray) (A0_3 : Option Addr) (c0_3 : Nat) (l0_3 : List (S26)) (A1 : Option Addr) (c1 : Nat) (l1 : List Int) (r1 : Int) (r2 : Int) (r3 : ByteArray) (r4 : List (S26)) (r5 : Int) (w : World) (hr0_3 : Kd.C k26 w A0_3 l0_3.length l0_3) (hc0_3 : l0_3.length ≤ c0_3) (hr1 : Kd.C (Kd.int .i64) w A1 l1.length l1) (hc1 : l1.length ≤ c1) (h : tree_At.f k a0_0 a0_1 a0_2 l0_3 l1 = some (r1, r2, r3, r4, r5)) :
  Calls Try.prog 49 #[.agg #[.int .i64 a0_0, .int .i64 a0_1, .string a0_2, .slice A0_3 l0_3.length c0_3], .slice A1 l1.length c1] w fun e w' => ∃ v3_ : Value, e = .returned (.tuple #[.agg #[.int .i64 r1, .int .i64 r2, .string r3, v3_], .int .i64 r5]) ∧ Kd.R k26 26 w' w.heap.size (fun _ => True) v3_ r4 ∧ Below w.heap.size w w' := by
 have hu26 := Try.underlying26; have HR0_3 := Aside0.mk hr0_3; have HC0_3 := Aside0.mk hc0_3; clear hr0_3 hc0_3; have HR1 := Aside0.mk hr1; have HC1 := Aside0.mk hc1; clear hr1 hc1; have HB := Aside0.mk (Below.refl w.heap.size w); have H : ((tree_find.f k a0_0 a0_1 a0_2 l0_3 l1).bind fun bt551 => (if bt551.2.2.2.2.2 = 0 then ((tree_Clone.f k bt551.1 bt551.2.1 bt551.2.2.1 bt551.2.2.2.1).bind fun bt560 => (some (bt560.1, bt560.2.1, bt560.2.2.1, bt560.2.2.2, 0))) else (some (0, 0, (⟨#[]⟩ : ByteArray), ([] : List (S26)), bt551.2.2.2.2.2)))) = some (r1, r2, r3, r4, r5) := h; clear h; replace H := Option.bind_eq_some_iff.mp H; obtain ⟨⟨t551, t552, t553, t554, t557, t558⟩, A30, H⟩ := H; replace H : (if t558 = 0 then ((tree_Clone.f k t551 t552 t553 t554).bind fun bt560 => (some (bt560.1, bt560.2.1, bt560.2.2.1, bt560.2.2.2, 0))) else (some (0, 0, (⟨#[]⟩ : ByteArray), ([] : List (S26)), t558))) = some (r1, r2, r3, r4, r5) := H; have A3 := Aside0.mk A30; clear A30; by_cases c4 : t558 = 0
 ·rw [if_pos c4] at H; have c4b0 : (t558 == 0) = true := beq_iff_eq.mpr c4; have c4b1 : (t558 != 0) = false := bne_eq_false_iff_eq.mpr c4; clear c4; replace H := Option.bind_eq_some_iff.mp H; obtain ⟨⟨t560, t561, t562, t563⟩, A50, H⟩ := H; replace H : (some (t560, t561, t562, t563, 0)) = some (r1, r2, r3, r4, r5) := H; have A5 := Aside0.mk A50; clear A50; simp only [Option.some.injEq, Prod.mk.injEq] at H; obtain ⟨rfl, rfl, rfl, rfl, rfl⟩ := H; go_enter Try.func49, Try.ntmps49
  go_wp2_with (first | ((with_reducible refine zD 2 rfl ?_); refine zx 2 #[.int .i64 a0_0, .int .i64 a0_1, .string a0_2, .slice A0_3 l0_3.length c0_3] 26 ?_; intro gb549 hg w6 hbox hb; have BK549 := Aside0.mk (hbox); have GW549 := (zq hg : Aside0 (w.heap.size ≤ gb549)); have GE549 := GW549; replace HB := (zB hb); clear hb hbox hg) | ((with_reducible refine zD 4 rfl ?_); refine zx 4 #[.int .i64 0, .int .i64 0, .string (⟨#[]⟩ : ByteArray), .slice none 0 0] 26 ?_; intro gb550 hg w7 hbox hb; have BK550 := Aside0.mk (hbox); have GW550 := (zq hg : Aside0 (w.heap.size ≤ gb550)); have GE550 := GW550; replace HB := (zB hb); have NB549_550 := (zl hg BK549 : Aside0 (gb549 ≠ gb550)); have NB550_549 := (zl' hg BK549 : Aside0 (gb550 ≠ gb549)); replace BK549 := (zK BK549 hb); clear hb hbox hg; have hnb8 := NB549_550.out; have hnc8 := NB550_549.out; obtain ⟨hcz9_0, hcz9_1, hcz9_2, hcz9_3⟩ := zc4 BK549; obtain ⟨hfz9_0, hfz9_1, hfz9_2, hfz9_3⟩ := zz4 BK549) | ((with_reducible refine zG 79 rfl ?_); refine zg 12 Try.func79 ((tree_find.calls k a0_0 a0_1 a0_2 (fun k_ => k_ < w.heap.size) _ _ l0_3 _ _ l1 t551 t552 t553 t554 t557 t558 _ ?side1 ?side2 ?side3 A3.out).mono ?_); (case side1 => exact Kd.V_mk HC0_3.out (Kd.F_below (Kd.C_F k26_heap HR0_3.out) zb)); (case side2 => exact zC HR1); (case side3 => exact HC1.out); rintro e w10 ⟨v555, rfl, ho0, hb⟩; refine ⟨_, rfl, ?_⟩; have HO556 := Aside0.mk (Kd.V_lower (Kd.V_mono (ok' := fun k_ => k_ ≠ gb549 ∧ k_ ≠ gb550) ho0 (fun k_ hk_ => ⟨Or.elim hk_ (fun hs_ => fun e_ => Nat.not_le.2 hs_ (by rw [e_]; exact GW549.out)) (fun hn_ => (Kd.freshB (g := gb549) (o := .cells #[.int .i64 a0_0, .int .i64 a0_1, .string a0_2, .slice A0_3 l0_3.length c0_3] 26 (0, 0)) (Cl.blk BK549.out) k_ hn_)), Or.elim hk_ (fun hs_ => fun e_ => Nat.not_le.2 hs_ (by rw [e_]; exact GW550.out)) (fun hn_ => (Kd.freshB (g := gb550) (o := .cells #[.int .i64 0, .int .i64 0, .string (⟨#[]⟩ : ByteArray), .slice none 0 0] 26 (0, 0)) (Cl.blk BK550.out) k_ hn_))⟩)) (below_size zb)); replace BK549 := (zK BK549 hb); replace BK550 := (zK BK550 hb); replace HB := (zB hb); (try clear hb); (try clear hb2); (try clear hk); (try clear hi); (try clear ho0)) | ((with_reducible refine zD 6 rfl ?_); refine zx 6 #[.int .i64 0, .int .i64 0, .string (⟨#[]⟩ : ByteArray), .slice none 0 0] 26 ?_; intro gb559 hg w11 hbox hb; replace HO556 := Aside0.mk (Kd.V_below (Kd.V_elderB (zV HO556) gb559 (Nat.le_of_eq hg.symm)) hb); have BK559 := Aside0.mk (hbox); have GW559 := (zq hg : Aside0 (w.heap.size ≤ gb559)); have GE559 := GW559; replace HB := (zB hb); have NB549_559 := (zl hg BK549 : Aside0 (gb549 ≠ gb559)); have NB559_549 := (zl' hg BK549 : Aside0 (gb559 ≠ gb549)); replace BK549 := (zK BK549 hb); have NB550_559 := (zl hg BK550 : Aside0 (gb550 ≠ gb559)); have NB559_550 := (zl' hg BK550 : Aside0 (gb559 ≠ gb550)); replace BK550 := (zK BK550 hb); clear hb hbox hg; have hnb12 := NB559_549.out; have hnc12 := NB549_559.out; have hnb13 := NB559_550.out; have hnc13 := NB550_559.out; obtain ⟨hcz14_0, hcz14_1, hcz14_2, hcz14_3⟩ := zc4 BK559; obtain ⟨hfz14_0, hfz14_1, hfz14_2, hfz14_3⟩ := zz4 BK559; obtain ⟨Ao15, co15, eo15⟩ := Kd.V_slice HO556.out; subst eo15) | ((with_reducible refine zG 78 rfl ?_); refine zg 21 Try.func78 ((tree_Clone.calls k t551 t552 t553 _ _ t554 t560 t561 t562 t563 _ ?side1 ?side2 A5.out).mono ?_); (case side1 => refine (Kd.V_reads' (e := 26) (base := w.heap.size) (ok := fun k_ => ((k_ ≠ gb549 ∧ k_ ≠ gb550) ∧ k_ ≠ gb559)) (n := t554.length) (c := co15) ?_).2.2; exact (by (with_reducible repeat (first | apply Kd.V_alloc | apply Kd.V_drewN | apply Kd.V_drew)); exact (Kd.V_mono (Kd.V_far (p := ⟨gb559, 3, none⟩) (Kd.V_far (p := ⟨gb559, 2, none⟩) (Kd.V_far (p := ⟨gb559, 1, none⟩) (Kd.V_far (p := ⟨gb559, 0, none⟩) (Kd.V_mono HO556.out (fun k_ hk => (⟨hk, hk.2⟩ : _ ∧ k_ ≠ gb559))) (fun _ hk => hk.2) (.int .i64 t551)) (fun _ hk => hk.2) (.int .i64 t552)) (fun _ hk => hk.2) (.string t553)) (fun _ hk => hk.2) (.slice Ao15 t554.length co15)) (fun _ h_ => h_.1)))); (case side2 => exact (Kd.V_reads' HO556.out).2.1); rintro e w16 ⟨v564, rfl, ho0, hb⟩; refine ⟨_, rfl, ?_⟩; replace HO556 := Aside0.mk (Kd.V_elder' (by (with_reducible repeat (first | apply Kd.V_alloc | apply Kd.V_drewN | apply Kd.V_drew)); exact (Kd.V_mono (Kd.V_far (p := ⟨gb559, 3, none⟩) (Kd.V_far (p := ⟨gb559, 2, none⟩) (Kd.V_far (p := ⟨gb559, 1, none⟩) (Kd.V_far (p := ⟨gb559, 0, none⟩) (Kd.V_mono HO556.out (fun k_ hk => (⟨hk, hk.2⟩ : _ ∧ k_ ≠ gb559))) (fun _ hk => hk.2) (.int .i64 t551)) (fun _ hk => hk.2) (.int .i64 t552)) (fun _ hk => hk.2) (.string t553)) (fun _ hk => hk.2) (.slice Ao15 t554.length co15)) (fun _ h_ => h_.1))) (Kd.R_base ho0) hb); have HO565 := Aside0.mk (Kd.R_lower (Kd.R_newB (Kd.R_newB (Kd.R_newB ho0 (g := gb549) (o := .cells #[.int .i64 a0_0, .int .i64 a0_1, .string a0_2, .slice A0_3 l0_3.length c0_3] 26 (0, 0)) zw) (g := gb550) (o := .cells #[.int .i64 0, .int .i64 0, .string (⟨#[]⟩ : ByteArray), .slice none 0 0] 26 (0, 0)) zw) (g := gb559) (o := .cells #[.int .i64 t551, .int .i64 t552, .string t553, .slice Ao15 t554.length co15] 26 (0, 0)) zw) (below_size zb)); replace BK549 := (zw2 gb549 #[.int .i64 a0_0, .int .i64 a0_1, .string a0_2, .slice A0_3 l0_3.length c0_3] 26 hb); replace BK550 := (zw2 gb550 #[.int .i64 0, .int .i64 0, .string (⟨#[]⟩ : ByteArray), .slice none 0 0] 26 hb); replace BK559 := (zw2 gb559 #[.int .i64 t551, .int .i64 t552, .string t553, .slice Ao15 t554.length co15] 26 hb); replace HB := (zB hb); (try clear hb); (try clear hb2); (try clear hk); (try clear hi); (try clear ho0); obtain ⟨hcz17_0, hcz17_1, hcz17_2, hcz17_3⟩ := zc4 BK550; obtain ⟨hfz17_0, hfz17_1, hfz17_2, hfz17_3⟩ := zz4 BK550; obtain ⟨Ao18, co18, eo18⟩ := Kd.R_slice HO565.out; subst eo18))
  refine bodyPost_ret (results_ct rfl _ _ gb550 26 #[.int .i64 t560, .int .i64 t561, .string t562, .slice Ao18 t563.length co18] (0, 0) _ rfl zw Try.underlying26 rfl (by kernel_rfl)) rfl ?_; exact ⟨_, zr, by (with_reducible repeat (first | apply Kd.R_alloc | apply Kd.R_drewN | apply Kd.R_drew)); exact Kd.R_mono (Kd.R_far (p := ⟨gb550, 3, none⟩) (Kd.R_far (p := ⟨gb550, 2, none⟩) (Kd.R_far (p := ⟨gb550, 1, none⟩) (Kd.R_far (p := ⟨gb550, 0, none⟩) (Kd.R_mono HO565.out (fun k_ hk => (⟨hk, hk.1.2⟩ : _ ∧ k_ ≠ gb550))) (fun _ hk => hk.2) (.int .i64 t560)) (fun _ hk => hk.2) (.int .i64 t561)) (fun _ hk => hk.2) (.string t562)) (fun _ hk => hk.2) (.slice Ao18 t563.length co18)) (fun _ hk => trivial), zb⟩
 ·rw [if_neg c4] at H; have c4b0 : (t558 == 0) = false := beq_eq_false_iff_ne.mpr c4; have c4b1 : (t558 != 0) = true := bne_iff_ne.mpr c4; simp only [Option.some.injEq, Prod.mk.injEq] at H; obtain ⟨rfl, rfl, rfl, rfl, rfl⟩ := H; go_enter Try.func49, Try.ntmps49
  go_wp2_with (first | ((with_reducible refine zD 2 rfl ?_); refine zx 2 #[.int .i64 a0_0, .int .i64 a0_1, .string a0_2, .slice A0_3 l0_3.length c0_3] 26 ?_; intro gb549 hg w19 hbox hb; have BK549 := Aside0.mk (hbox); have GW549 := (zq hg : Aside0 (w.heap.size ≤ gb549)); have GE549 := GW549; replace HB := (zB hb); clear hb hbox hg) | ((with_reducible refine zD 4 rfl ?_); refine zx 4 #[.int .i64 0, .int .i64 0, .string (⟨#[]⟩ : ByteArray), .slice none 0 0] 26 ?_; intro gb550 hg w20 hbox hb; have BK550 := Aside0.mk (hbox); have GW550 := (zq hg : Aside0 (w.heap.size ≤ gb550)); have GE550 := GW550; replace HB := (zB hb); have NB549_550 := (zl hg BK549 : Aside0 (gb549 ≠ gb550)); have NB550_549 := (zl' hg BK549 : Aside0 (gb550 ≠ gb549)); replace BK549 := (zK BK549 hb); clear hb hbox hg; have hnb21 := NB549_550.out; have hnc21 := NB550_549.out; obtain ⟨hcz22_0, hcz22_1, hcz22_2, hcz22_3⟩ := zc4 BK549; obtain ⟨hfz22_0, hfz22_1, hfz22_2, hfz22_3⟩ := zz4 BK549) | ((with_reducible refine zG 79 rfl ?_); refine zg 12 Try.func79 ((tree_find.calls k a0_0 a0_1 a0_2 (fun k_ => k_ < w.heap.size) _ _ l0_3 _ _ l1 t551 t552 t553 t554 t557 t558 _ ?side1 ?side2 ?side3 A3.out).mono ?_); (case side1 => exact Kd.V_mk HC0_3.out (Kd.F_below (Kd.C_F k26_heap HR0_3.out) zb)); (case side2 => exact zC HR1); (case side3 => exact HC1.out); rintro e w23 ⟨v555, rfl, ho0, hb⟩; refine ⟨_, rfl, ?_⟩; have HO556 := Aside0.mk (Kd.V_lower (Kd.V_mono (ok' := fun k_ => k_ ≠ gb549 ∧ k_ ≠ gb550) ho0 (fun k_ hk_ => ⟨Or.elim hk_ (fun hs_ => fun e_ => Nat.not_le.2 hs_ (by rw [e_]; exact GW549.out)) (fun hn_ => (Kd.freshB (g := gb549) (o := .cells #[.int .i64 a0_0, .int .i64 a0_1, .string a0_2, .slice A0_3 l0_3.length c0_3] 26 (0, 0)) (Cl.blk BK549.out) k_ hn_)), Or.elim hk_ (fun hs_ => fun e_ => Nat.not_le.2 hs_ (by rw [e_]; exact GW550.out)) (fun hn_ => (Kd.freshB (g := gb550) (o := .cells #[.int .i64 0, .int .i64 0, .string (⟨#[]⟩ : ByteArray), .slice none 0 0] 26 (0, 0)) (Cl.blk BK550.out) k_ hn_))⟩)) (below_size zb)); replace BK549 := (zK BK549 hb); replace BK550 := (zK BK550 hb); replace HB := (zB hb); (try clear hb); (try clear hb2); (try clear hk); (try clear hi); (try clear ho0)) | ((with_reducible refine zD 6 rfl ?_); refine zx 6 #[.int .i64 0, .int .i64 0, .string (⟨#[]⟩ : ByteArray), .slice none 0 0] 26 ?_; intro gb559 hg w24 hbox hb; replace HO556 := Aside0.mk (Kd.V_below (Kd.V_elderB (zV HO556) gb559 (Nat.le_of_eq hg.symm)) hb); have BK559 := Aside0.mk (hbox); have GW559 := (zq hg : Aside0 (w.heap.size ≤ gb559)); have GE559 := GW559; replace HB := (zB hb); have NB549_559 := (zl hg BK549 : Aside0 (gb549 ≠ gb559)); have NB559_549 := (zl' hg BK549 : Aside0 (gb559 ≠ gb549)); replace BK549 := (zK BK549 hb); have NB550_559 := (zl hg BK550 : Aside0 (gb550 ≠ gb559)); have NB559_550 := (zl' hg BK550 : Aside0 (gb559 ≠ gb550)); replace BK550 := (zK BK550 hb); clear hb hbox hg; have hnb25 := NB559_549.out; have hnc25 := NB549_559.out; have hnb26 := NB559_550.out; have hnc26 := NB550_559.out; obtain ⟨hcz27_0, hcz27_1, hcz27_2, hcz27_3⟩ := zc4 BK559; obtain ⟨hfz27_0, hfz27_1, hfz27_2, hfz27_3⟩ := zz4 BK559; obtain ⟨Ao28, co28, eo28⟩ := Kd.V_slice HO556.out; subst eo28; obtain ⟨hcz29_0, hcz29_1, hcz29_2, hcz29_3⟩ := zc4 BK550; obtain ⟨hfz29_0, hfz29_1, hfz29_2, hfz29_3⟩ := zz4 BK550))
  refine bodyPost_ret (results_ct rfl _ _ gb550 26 #[.int .i64 0, .int .i64 0, .string (⟨#[]⟩ : ByteArray), .slice none 0 0] (0, 0) _ rfl zw Try.underlying26 rfl (by kernel_rfl)) rfl ?_; exact ⟨_, zr, by first | exact Kd.R_nil _ _ _ _ _ | exact Kd.N_nil _ _ _ _ _ | exact Kd.V_nil _ _ _ _ _ | exact Kd.Q_nil _ _ _ _ _ | exact Kd.S_nil _ _ _ _ _, zb⟩

/-! ### marginalialaw05_position: function 50 -/
def marginalialaw05_position.l0 : Nat → List Int → List Int → Int → Int → Int → ByteArray → List (S26) → Option (List Int)
 | 0, _, _, _, _, _, _, _ => none
 | k + 1, x1, x5, x6, x628000, x628001, x628002, x628003 => if x6 < (x1.length : Int) then (if (x628003.length : Int) > 0 then (if 0 ≤ x6 then (if (IntKind.u64.wrap ((x628003.length : Int))) = 0 then (none) else (if x5.length < 17592186044416 then (if 0 ≤ (wrap64 (Int.tmod (IntKind.u64.wrap (rd x1 x6)) (IntKind.u64.wrap ((x628003.length : Int))))) then (if (wrap64 (Int.tmod (IntKind.u64.wrap (rd x1 x6)) (IntKind.u64.wrap ((x628003.length : Int))))) < (x628003.length : Int) then (marginalialaw05_position.l0 k x1 (x5 ++ [wrap64 (Int.tmod (IntKind.u64.wrap (rd x1 x6)) (IntKind.u64.wrap ((x628003.length : Int))))]) (wrap64 (x6 + 1)) ((rd_T26 x628003 (wrap64 (Int.tmod (IntKind.u64.wrap (rd x1 x6)) (IntKind.u64.wrap ((x628003.length : Int)))))).f0) ((rd_T26 x628003 (wrap64 (Int.tmod (IntKind.u64.wrap (rd x1 x6)) (IntKind.u64.wrap ((x628003.length : Int)))))).f1.f0) ((rd_T26 x628003 (wrap64 (Int.tmod (IntKind.u64.wrap (rd x1 x6)) (IntKind.u64.wrap ((x628003.length : Int)))))).f1.f1) ((rd_T26 x628003 (wrap64 (Int.tmod (IntKind.u64.wrap (rd x1 x6)) (IntKind.u64.wrap ((x628003.length : Int)))))).f2)) else (none)) else (none)) else (none))) else (none)) else (some x5)) else (some x5)
def marginalialaw05_position.f (k : Nat) (a0_0 : Int) (a0_1 : Int) (a0_2 : ByteArray) (l0_3 : List (S26)) (l1 : List Int) : Option (List Int) := marginalialaw05_position.l0 k l1 ([] : List Int) 0 a0_0 a0_1 a0_2 l0_3
set_option maxHeartbeats 8000000 in
set_option maxRecDepth 100000 in
theorem marginalialaw05_position.calls (k : Nat) (a0_0 : Int) (a0_1 : Int) (a0_2 : ByteArray) (P0_3_ : Nat → Prop) (A0_3 : Option Addr) (c0_3 : Nat) (l0_3 : List (S26)) (A1 : Option Addr) (c1 : Nat) (l1 : List Int) (r : List Int) (w : World) (hs0_3 : Kd.V k26 26 w w.heap.size (fun k_ => P0_3_ k_) (.slice A0_3 l0_3.length c0_3) l0_3) (hr1 : Kd.C (Kd.int .i64) w A1 l1.length l1) (hc1 : l1.length ≤ c1) (h : marginalialaw05_position.f k a0_0 a0_1 a0_2 l0_3 l1 = some r) :
  Calls Try.prog 50 #[.agg #[.int .i64 a0_0, .int .i64 a0_1, .string a0_2, .slice A0_3 l0_3.length c0_3], .slice A1 l1.length c1] w fun e w' => ∃ v0_ : Value, e = .returned (v0_) ∧ Kd.R (Kd.int .i64) 3 w' w.heap.size (fun k_ => (w.heap.size ≤ k_)) v0_ r ∧ Below w.heap.size w w' := by
 have hu26 := Try.underlying26; have HO0_3 := Aside0.mk (show Kd.V k26 26 w w.heap.size (fun k_ => (P0_3_ k_ ∨ w.heap.size ≤ k_)) (.slice A0_3 l0_3.length c0_3) l0_3 from Kd.V_mono hs0_3 (fun k_ hk => .inl hk)); have HR1 := Aside0.mk hr1; have HC1 := Aside0.mk hc1; clear hr1 hc1; have HB := Aside0.mk (Below.refl w.heap.size w); have H : (marginalialaw05_position.l0 k l1 ([] : List Int) 0 a0_0 a0_1 a0_2 l0_3) = some r := h; clear h; have H' := Aside0.mk H; clear H; go_enter Try.func50, Try.ntmps50
 go_wp2_with (first | ((with_reducible refine zD 2 rfl ?_); (try (refine gate_guard (by rfl) ?_; dsimp only)); refine zx 2 #[.int .i64 a0_0, .int .i64 a0_1, .string a0_2, .slice A0_3 l0_3.length c0_3] 26 ?_; intro gb627 hg w3 hbox hb; replace HO0_3 := Aside0.mk (Kd.V_below (Kd.V_elderB (zV HO0_3) gb627 (Nat.le_of_eq hg.symm)) hb); have BK627 := Aside0.mk (hbox); have GW627 := (zq hg : Aside0 (w.heap.size ≤ gb627)); have GE627 := GW627; replace HB := (zB hb); clear hb hbox hg))
 repeat (go_quiet (first | ((with_reducible refine zD 2 rfl ?_); (try (refine gate_guard (by rfl) ?_; dsimp only)); refine zx 2 #[.int .i64 a0_0, .int .i64 a0_1, .string a0_2, .slice A0_3 l0_3.length c0_3] 26 ?_; intro gb627 hg w3 hbox hb; replace HO0_3 := Aside0.mk (Kd.V_below (Kd.V_elderB (zV HO0_3) gb627 (Nat.le_of_eq hg.symm)) hb); have BK627 := Aside0.mk (hbox); have GW627 := (zq hg : Aside0 (w.heap.size ≤ gb627)); have GE627 := GW627; replace HB := (zB hb); clear hb hbox hg)); try go_wp2_with (first | ((with_reducible refine zD 2 rfl ?_); (try (refine gate_guard (by rfl) ?_; dsimp only)); refine zx 2 #[.int .i64 a0_0, .int .i64 a0_1, .string a0_2, .slice A0_3 l0_3.length c0_3] 26 ?_; intro gb627 hg w3 hbox hb; replace HO0_3 := Aside0.mk (Kd.V_below (Kd.V_elderB (zV HO0_3) gb627 (Nat.le_of_eq hg.symm)) hb); have BK627 := Aside0.mk (hbox); have GW627 := (zq hg : Aside0 (w.heap.size ≤ gb627)); have GE627 := GW627; replace HB := (zB hb); clear hb hbox hg)))
 go_loopg [5, 6] k (fun kq v5 v6 w' => ∃ (x5_1 : List Int) (x6_1 : Int) (x628000_1 : Int) (x628001_1 : Int) (x628002_1 : ByteArray) (x628003_1 : List (S26)) (u628003 : Value), v6 = .int .i64 x6_1 ∧ Aside0 (marginalialaw05_position.l0 kq l1 x5_1 x6_1 x628000_1 x628001_1 x628002_1 x628003_1 = some r) ∧ Aside0 (kq ≤ k) ∧ Aside0 (Kd.R (Kd.int .i64) 3 w' w.heap.size (fun k_ => (w.heap.size ≤ k_)) v5 x5_1) ∧ Aside0 (Kd.V k26 26 w' w.heap.size (fun k_ => (P0_3_ k_ ∨ w.heap.size ≤ k_) ∧ some k_ ≠ (v5 : Value).ownBlock ∧ k_ ≠ gb627) u628003 x628003_1) ∧ Aside0 (w'.heap[gb627]? = some (.cells #[.int .i64 x628000_1, .int .i64 x628001_1, .string x628002_1, u628003] 26 (0, 0))) ∧ Aside0 (Below w.heap.size w w'))
 case atStart => exact ⟨(([] : List Int)), (0), (a0_0), (a0_1), (a0_2), (l0_3), (.slice A0_3 l0_3.length c0_3), zs, H', ⟨Nat.le_refl _⟩, ⟨by first | exact Kd.R_nil _ _ _ _ _ | exact Kd.N_nil _ _ _ _ _ | exact Kd.V_nil _ _ _ _ _ | exact Kd.Q_nil _ _ _ _ _ | exact Kd.S_nil _ _ _ _ _⟩, ⟨by (with_reducible repeat (first | apply Kd.V_alloc | apply Kd.V_drewN | apply Kd.V_drew)); exact Kd.V_mono HO0_3.out (fun _ hk => ⟨hk.1, ⟨(by simp [Value.ownBlock]), hk.2⟩⟩)⟩, (zA BK627), ⟨zb⟩⟩
 case round =>
  clear H'; obtain ⟨x5_1, x6_1, x628000_1, x628001_1, x628002_1, x628003_1, u628003, rfl, HA, HK1, HO_5, HO_628003, BK627, HB⟩ := hrel
  cases gk with
  | zero => exact absurd HA.out (by simp [marginalialaw05_position.l0])
  | succ k1 =>
   have H := HA.out; clear HA; simp only [marginalialaw05_position.l0] at H; by_cases c4 : x6_1 < (l1.length : Int)
   ·rw [if_pos c4] at H; have c4b0 := decide_eq_true c4; clear c4; by_cases c5 : (x628003_1.length : Int) > 0
    ·rw [if_pos c5] at H; have c5b0 := decide_eq_true c5; have c5b1 : decide (0 < x628003_1.length) = true := decide_eq_true (by omega); clear c5; replace H := zi1 H; obtain ⟨c6b0, H⟩ := H; replace H := zj H; obtain ⟨c7, H⟩ := H; have c7b0 : ((IntKind.u64.wrap ((x628003_1.length : Int))) == 0) = false := beq_eq_false_iff_ne.mpr c7; have c7b1 : ((IntKind.u64.wrap ((x628003_1.length : Int))) != 0) = true := bne_iff_ne.mpr c7; replace H := zi H; obtain ⟨c8, H⟩ := H; have LMc8 := Aside0.mk c8; clear c8
     obtain ⟨y629, hy629⟩ : ∃ y_ : List Int, y_ = (x5_1 ++ [wrap64 (Int.tmod (IntKind.u64.wrap (rd l1 x6_1)) (IntKind.u64.wrap ((x628003_1.length : Int))))]) := ⟨_, rfl⟩
     replace H : (if 0 ≤ (wrap64 (Int.tmod (IntKind.u64.wrap (rd l1 x6_1)) (IntKind.u64.wrap ((x628003_1.length : Int))))) then (if (wrap64 (Int.tmod (IntKind.u64.wrap (rd l1 x6_1)) (IntKind.u64.wrap ((x628003_1.length : Int))))) < (x628003_1.length : Int) then (marginalialaw05_position.l0 k1 l1 y629 (wrap64 (x6_1 + 1)) ((rd_T26 x628003_1 (wrap64 (Int.tmod (IntKind.u64.wrap (rd l1 x6_1)) (IntKind.u64.wrap ((x628003_1.length : Int)))))).f0) ((rd_T26 x628003_1 (wrap64 (Int.tmod (IntKind.u64.wrap (rd l1 x6_1)) (IntKind.u64.wrap ((x628003_1.length : Int)))))).f1.f0) ((rd_T26 x628003_1 (wrap64 (Int.tmod (IntKind.u64.wrap (rd l1 x6_1)) (IntKind.u64.wrap ((x628003_1.length : Int)))))).f1.f1) ((rd_T26 x628003_1 (wrap64 (Int.tmod (IntKind.u64.wrap (rd l1 x6_1)) (IntKind.u64.wrap ((x628003_1.length : Int)))))).f2)) else (none)) else (none)) = some r := by first | (rw [hy629]; with_reducible exact H) | (have H2_ := (Option.bind_some _ _).symm.trans H; rw [hy629]; with_reducible exact H2_) | (have H2_ := (Option.bind_some _ _).symm.trans H; with_reducible exact H2_) | with_reducible exact H | (rw [hy629]; exact H) | exact H
     have Ny629 := Aside0.mk hy629; clear hy629
     obtain ⟨ji9, hji9⟩ : ∃ j_ : Int, (wrap64 (Int.tmod (IntKind.u64.wrap (rd l1 x6_1)) (IntKind.u64.wrap ((x628003_1.length : Int))))) = j_ := ⟨_, rfl⟩
     replace H : (if 0 ≤ (ji9) then (if (ji9) < (x628003_1.length : Int) then (marginalialaw05_position.l0 k1 l1 y629 (wrap64 (x6_1 + 1)) ((rd_T26 x628003_1 (ji9)).f0) ((rd_T26 x628003_1 (ji9)).f1.f0) ((rd_T26 x628003_1 (ji9)).f1.f1) ((rd_T26 x628003_1 (ji9)).f2)) else (none)) else (none)) = some r := by first | (rw [hji9] at H; exact H) | (simp only [hji9] at H ⊢; exact H)
     (try rw [hji9] at Ny629)
     have hji9w : (IntKind.i64.wrap (Int.tmod (IntKind.u64.wrap (rd l1 x6_1)) (IntKind.u64.wrap ((x628003_1.length : Int))))) = ji9 := (i64_w _).trans hji9; replace H := zi1 H; obtain ⟨c10b0, H⟩ := H; replace H := zi1 H; obtain ⟨c11b0, H⟩ := H; have H' := Aside0.mk H; clear H; obtain ⟨hcz12_0, hcz12_1, hcz12_2, hcz12_3⟩ := zc4 BK627; obtain ⟨hfz12_0, hfz12_1, hfz12_2, hfz12_3⟩ := zz4 BK627; obtain ⟨Ao13, co13, eo13⟩ := Kd.V_slice HO_628003.out; subst eo13; have p628 : 0 ≤ (x6_1 : Int) := zt; have q628 : x6_1 < (l1.length : Int) := zt; obtain ⟨ad628, e628, hx628_0⟩ := Kd.at_int HR1.out x6_1 p628 q628
     cases e628
     replace hx628_0 := zh HB hx628_0; replace p628 := eq_true p628; replace q628 := eq_true q628
     go_wp2_with (first | ((with_reducible refine gate_builtin (b := .append) (xs := #[.tmp 31, .tmp 33]) rfl ?_); (try (refine gate_guard (by rfl) ?_; dsimp only)); at_builtin; refine Kd.R_append (Kd.int .i64) (w0 := w) w.heap.size rfl (.tmp 31) (.tmp 33) 30 3 (.int .i64 0) 8 rfl Try.underlying30 info3 rfl (by decide) (by omega) u5 x5_1 ji9 [.int .i64 ji9] (fun k_ => (w.heap.size ≤ k_)) (fun _ => False) rfl rfl ?aP (fun _ hk => hk.elim) ?aF ?aO ?aB ?aS ?aL ?_; (case aP => exact rfl); (case aB => exact zb); (case aF => exact (fun k_ hk => (Nat.le_trans (below_size zb) hk))); (case aO => exact (zR HO_5)); (case aS => exact (below_size zb)); (case aL => have := LMc8.out; omega); intro v630 w14 ho hb hg hat; rw [← Ny629.out] at ho; replace HO_628003 := Aside0.mk (Kd.V_afterv (ok := (fun k_ => (P0_3_ k_ ∨ w.heap.size ≤ k_) ∧ k_ ≠ gb627)) (by (with_reducible repeat (first | apply Kd.V_alloc | apply Kd.V_drewN | apply Kd.V_drew)); exact Kd.V_mono HO_628003.out (fun _ hk => ⟨⟨hk.1, hk.2.2⟩, hk.2.1⟩)) hg hat); replace BK627 := (blk_grown' BK627 hg (Kd.R_ne HO_5.out BK627.out (by decide))); replace HB := Aside0.mk (hb); have HO631 := Aside0.mk (ho); clear HO_5 ho hb hg hat; obtain ⟨hcz15_0, hcz15_1, hcz15_2, hcz15_3⟩ := zc4 BK627; obtain ⟨hfz15_0, hfz15_1, hfz15_2, hfz15_3⟩ := zz4 BK627; have p632 : 0 ≤ ((ji9) : Int) := zt; have q632 : (ji9) < (x628003_1.length : Int) := zt; obtain ⟨ad632, A632_3, c632_3, e632, hx632_0, hx632_1, hx632_2, hx632_3, hl632_3, hi632_3⟩ := at_T26 (Kd.V_reads' HO_628003.out).2.2 (ji9) p632 q632; cases e632; obtain ⟨ce632, hce632, hMe632, hcc632⟩ := Kd.V_get HO_628003.out z26 (ji9) p632 (by first | exact q632 | exact zt | (have e_ := (Kd.V_reads' HO_628003.out).1; omega)); obtain ⟨ua632_3, uc632_3, rfl, ul632_3, ge632_3⟩ := k26_openF hMe632; have hv632_3 := hcc632 3 _ rfl; rw [add_field _ _ 3 (by omega)] at hv632_3; replace hv632_3 := Option.some.inj (hv632_3.symm.trans hx632_3); injection hv632_3 with hva_ hvn_ hvc_; rw [hva_] at ge632_3; rw [hvc_] at ul632_3; have HL632_3 := Aside0.mk (show Kd.V k26 26 _ w.heap.size _ _ ((rd_T26 x628003_1 (ji9)).f2) from Kd.V_mk ul632_3 ge632_3); clear hva_ hvn_ hvc_ ge632_3 ul632_3 hcc632 hce632; have HR632_3 := Aside0.mk hi632_3; have HC632_3 := Aside0.mk hl632_3; clear hi632_3 hl632_3; replace p632 := eq_true p632; replace q632 := eq_true q632))
     repeat (go_quiet (first | ((with_reducible refine gate_builtin (b := .append) (xs := #[.tmp 31, .tmp 33]) rfl ?_); (try (refine gate_guard (by rfl) ?_; dsimp only)); at_builtin; refine Kd.R_append (Kd.int .i64) (w0 := w) w.heap.size rfl (.tmp 31) (.tmp 33) 30 3 (.int .i64 0) 8 rfl Try.underlying30 info3 rfl (by decide) (by omega) u5 x5_1 ji9 [.int .i64 ji9] (fun k_ => (w.heap.size ≤ k_)) (fun _ => False) rfl rfl ?aP (fun _ hk => hk.elim) ?aF ?aO ?aB ?aS ?aL ?_; (case aP => exact rfl); (case aB => exact zb); (case aF => exact (fun k_ hk => (Nat.le_trans (below_size zb) hk))); (case aO => exact (zR HO_5)); (case aS => exact (below_size zb)); (case aL => have := LMc8.out; omega); intro v630 w14 ho hb hg hat; rw [← Ny629.out] at ho; replace HO_628003 := Aside0.mk (Kd.V_afterv (ok := (fun k_ => (P0_3_ k_ ∨ w.heap.size ≤ k_) ∧ k_ ≠ gb627)) (by (with_reducible repeat (first | apply Kd.V_alloc | apply Kd.V_drewN | apply Kd.V_drew)); exact Kd.V_mono HO_628003.out (fun _ hk => ⟨⟨hk.1, hk.2.2⟩, hk.2.1⟩)) hg hat); replace BK627 := (blk_grown' BK627 hg (Kd.R_ne HO_5.out BK627.out (by decide))); replace HB := Aside0.mk (hb); have HO631 := Aside0.mk (ho); clear HO_5 ho hb hg hat; obtain ⟨hcz15_0, hcz15_1, hcz15_2, hcz15_3⟩ := zc4 BK627; obtain ⟨hfz15_0, hfz15_1, hfz15_2, hfz15_3⟩ := zz4 BK627; have p632 : 0 ≤ ((ji9) : Int) := zt; have q632 : (ji9) < (x628003_1.length : Int) := zt; obtain ⟨ad632, A632_3, c632_3, e632, hx632_0, hx632_1, hx632_2, hx632_3, hl632_3, hi632_3⟩ := at_T26 (Kd.V_reads' HO_628003.out).2.2 (ji9) p632 q632; cases e632; obtain ⟨ce632, hce632, hMe632, hcc632⟩ := Kd.V_get HO_628003.out z26 (ji9) p632 (by first | exact q632 | exact zt | (have e_ := (Kd.V_reads' HO_628003.out).1; omega)); obtain ⟨ua632_3, uc632_3, rfl, ul632_3, ge632_3⟩ := k26_openF hMe632; have hv632_3 := hcc632 3 _ rfl; rw [add_field _ _ 3 (by omega)] at hv632_3; replace hv632_3 := Option.some.inj (hv632_3.symm.trans hx632_3); injection hv632_3 with hva_ hvn_ hvc_; rw [hva_] at ge632_3; rw [hvc_] at ul632_3; have HL632_3 := Aside0.mk (show Kd.V k26 26 _ w.heap.size _ _ ((rd_T26 x628003_1 (ji9)).f2) from Kd.V_mk ul632_3 ge632_3); clear hva_ hvn_ hvc_ ge632_3 ul632_3 hcc632 hce632; have HR632_3 := Aside0.mk hi632_3; have HC632_3 := Aside0.mk hl632_3; clear hi632_3 hl632_3; replace p632 := eq_true p632; replace q632 := eq_true q632)); try go_wp2_with (first | ((with_reducible refine gate_builtin (b := .append) (xs := #[.tmp 31, .tmp 33]) rfl ?_); (try (refine gate_guard (by rfl) ?_; dsimp only)); at_builtin; refine Kd.R_append (Kd.int .i64) (w0 := w) w.heap.size rfl (.tmp 31) (.tmp 33) 30 3 (.int .i64 0) 8 rfl Try.underlying30 info3 rfl (by decide) (by omega) u5 x5_1 ji9 [.int .i64 ji9] (fun k_ => (w.heap.size ≤ k_)) (fun _ => False) rfl rfl ?aP (fun _ hk => hk.elim) ?aF ?aO ?aB ?aS ?aL ?_; (case aP => exact rfl); (case aB => exact zb); (case aF => exact (fun k_ hk => (Nat.le_trans (below_size zb) hk))); (case aO => exact (zR HO_5)); (case aS => exact (below_size zb)); (case aL => have := LMc8.out; omega); intro v630 w14 ho hb hg hat; rw [← Ny629.out] at ho; replace HO_628003 := Aside0.mk (Kd.V_afterv (ok := (fun k_ => (P0_3_ k_ ∨ w.heap.size ≤ k_) ∧ k_ ≠ gb627)) (by (with_reducible repeat (first | apply Kd.V_alloc | apply Kd.V_drewN | apply Kd.V_drew)); exact Kd.V_mono HO_628003.out (fun _ hk => ⟨⟨hk.1, hk.2.2⟩, hk.2.1⟩)) hg hat); replace BK627 := (blk_grown' BK627 hg (Kd.R_ne HO_5.out BK627.out (by decide))); replace HB := Aside0.mk (hb); have HO631 := Aside0.mk (ho); clear HO_5 ho hb hg hat; obtain ⟨hcz15_0, hcz15_1, hcz15_2, hcz15_3⟩ := zc4 BK627; obtain ⟨hfz15_0, hfz15_1, hfz15_2, hfz15_3⟩ := zz4 BK627; have p632 : 0 ≤ ((ji9) : Int) := zt; have q632 : (ji9) < (x628003_1.length : Int) := zt; obtain ⟨ad632, A632_3, c632_3, e632, hx632_0, hx632_1, hx632_2, hx632_3, hl632_3, hi632_3⟩ := at_T26 (Kd.V_reads' HO_628003.out).2.2 (ji9) p632 q632; cases e632; obtain ⟨ce632, hce632, hMe632, hcc632⟩ := Kd.V_get HO_628003.out z26 (ji9) p632 (by first | exact q632 | exact zt | (have e_ := (Kd.V_reads' HO_628003.out).1; omega)); obtain ⟨ua632_3, uc632_3, rfl, ul632_3, ge632_3⟩ := k26_openF hMe632; have hv632_3 := hcc632 3 _ rfl; rw [add_field _ _ 3 (by omega)] at hv632_3; replace hv632_3 := Option.some.inj (hv632_3.symm.trans hx632_3); injection hv632_3 with hva_ hvn_ hvc_; rw [hva_] at ge632_3; rw [hvc_] at ul632_3; have HL632_3 := Aside0.mk (show Kd.V k26 26 _ w.heap.size _ _ ((rd_T26 x628003_1 (ji9)).f2) from Kd.V_mk ul632_3 ge632_3); clear hva_ hvn_ hvc_ ge632_3 ul632_3 hcc632 hce632; have HR632_3 := Aside0.mk hi632_3; have HC632_3 := Aside0.mk hl632_3; clear hi632_3 hl632_3; replace p632 := eq_true p632; replace q632 := eq_true q632)))
     go_roundg k1
     case measure => have := HK1.out; omega
     case rel => exact ⟨(y629), (wrap64 (x6_1 + 1)), ((rd_T26 x628003_1 (ji9)).f0), ((rd_T26 x628003_1 (ji9)).f1.f0), ((rd_T26 x628003_1 (ji9)).f1.f1), ((rd_T26 x628003_1 (ji9)).f2), (.slice A632_3 ((rd_T26 x628003_1 (ji9)).f2).length c632_3), zs, H', zk, ⟨by (with_reducible repeat (first | apply Kd.R_alloc | apply Kd.R_drewN | apply Kd.R_drew)); exact Kd.R_mono (Kd.R_far (p := ⟨gb627, 3, none⟩) (Kd.R_far (p := ⟨gb627, 2, none⟩) (Kd.R_far (p := ⟨gb627, 1, none⟩) (Kd.R_far (p := ⟨gb627, 0, none⟩) (Kd.R_types HO631.out BK627.out (by decide)) (fun _ hk => hk.2) (.int .i64 ((rd_T26 x628003_1 (ji9)).f0))) (fun _ hk => hk.2) (.int .i64 ((rd_T26 x628003_1 (ji9)).f1.f0))) (fun _ hk => hk.2) (.string ((rd_T26 x628003_1 (ji9)).f1.f1))) (fun _ hk => hk.2) (.slice A632_3 ((rd_T26 x628003_1 (ji9)).f2).length c632_3)) (fun _ hk => hk.1)⟩, ⟨by (with_reducible repeat (first | apply Kd.V_alloc | apply Kd.V_drewN | apply Kd.V_drew)); exact Kd.V_mono (Kd.V_far (p := ⟨gb627, 3, none⟩) (Kd.V_far (p := ⟨gb627, 2, none⟩) (Kd.V_far (p := ⟨gb627, 1, none⟩) (Kd.V_far (p := ⟨gb627, 0, none⟩) (Kd.V_mono HL632_3.out (fun k_ hk => (⟨hk, hk.1.2⟩ : _ ∧ k_ ≠ gb627))) (fun _ hk => hk.2) (.int .i64 ((rd_T26 x628003_1 (ji9)).f0))) (fun _ hk => hk.2) (.int .i64 ((rd_T26 x628003_1 (ji9)).f1.f0))) (fun _ hk => hk.2) (.string ((rd_T26 x628003_1 (ji9)).f1.f1))) (fun _ hk => hk.2) (.slice A632_3 ((rd_T26 x628003_1 (ji9)).f2).length c632_3)) (fun _ hk => ⟨hk.1.1.1, ⟨hk.1.2, hk.1.1.2⟩⟩)⟩, ⟨zw⟩, ⟨zb⟩⟩
    ·rw [if_neg c5] at H; have c5b0 := decide_eq_false c5; have c5b1 : decide (0 < x628003_1.length) = false := decide_eq_false (by omega); clear c5; obtain rfl := Option.some.inj H; obtain ⟨hcz16_0, hcz16_1, hcz16_2, hcz16_3⟩ := zc4 BK627; obtain ⟨hfz16_0, hfz16_1, hfz16_2, hfz16_3⟩ := zz4 BK627; obtain ⟨Ao17, co17, eo17⟩ := Kd.V_slice HO_628003.out; subst eo17; go_wp2
     repeat (go_quiet (fail); try go_wp2)
     go_ret; exact ⟨_, zr, by (with_reducible repeat (first | apply Kd.R_alloc | apply Kd.R_drewN | apply Kd.R_drew)); exact HO_5.out, zb⟩
   ·rw [if_neg c4] at H; have c4b0 := decide_eq_false c4; clear c4; obtain rfl := Option.some.inj H; go_wp2
    repeat (go_quiet (fail); try go_wp2)
    go_ret; exact ⟨_, zr, by (with_reducible repeat (first | apply Kd.R_alloc | apply Kd.R_drewN | apply Kd.R_drew)); exact HO_5.out, zb⟩

end Go.Proofs.Ytnafnieocpkkhaa.P

set_option linter.unusedVariables false
set_option linter.unusedSimpArgs false
namespace Go.Proofs.Ytnafnieocpkkhaa.P
open Go.RowKit Go.Proofs.YtnafnieocpkkhaaW.PrintWords Go.Proofs.YtnafnieocpkkhaaW.PrintLast Go.Proofs.YtnafnieocpkkhaaW.PrintMore
abbrev Tk := S23
theorem Nd.eta (x : Nd) : (⟨x.f0, ⟨x.f1.f0, x.f1.f1⟩, x.f2⟩ : Nd) = x := by cases x; rfl
/-! ### Cut -/
theorem One_ev (kind : Int) (s : ByteArray) : ∃ t, marginaliaref03_One.f kind s = some (kind, t) ∧ t.size ≤ 20001 ∧ (s.size ≤ 20001 → t = s) := by
 unfold marginaliaref03_One.f; have h : mn (s.size : Int) 20001 = ((min s.size 20001 : Nat) : Int) := mn_nat s.size 20001; rw [h, if_pos (by omega), if_pos (by omega)]; refine ⟨_, rfl, ?_, fun hs => ?_⟩
 ·rw [ByteArray.size_extract]; omega
 ·rw [Int.toNat_natCast, Nat.min_eq_left hs]; exact ByteArray.extract_zero_size
theorem wds_append (l : List Nd) (x : Nd) : ((l ++ [x]).map wd).sum = (l.map wd).sum + wd x := by
 simp
theorem nds_append (l : List Nd) (x : Nd) : ((l ++ [x]).map nd).sum = (l.map nd).sum + nd x := by
 simp
def cutP (n : Nd) : Prop := ∀ left depth : Nat, 1 ≤ left → left ≤ 1000 → depth ≤ 1003 → ∃ m : Nd, Ev (fun k => marginaliaref05_cut.f k n.f0 n.f1.f0 n.f1.f1 n.f2 (left : Int) (depth : Int)) (m.f0, m.f1.f0, m.f1.f1, m.f2, ((left - nd m : Nat) : Int)) ∧ nd m ≤ left ∧ wd m ≤ 20001 * nd m
theorem cut_loop (n : Nd) (k0 : Int) (t : Tk) (ht : t.f1.size ≤ 20001) (left depth : Nat) (hl : left ≤ 1000) (hdep : depth ≤ 1003) : ∀ (r : List Nd) (i : Nat) (acc : List Nd), n.f2.drop i = r → acc.length = i → (∀ x ∈ r, cutP x) → (acc.map nd).sum + 1 ≤ left → (acc.map wd).sum ≤ 20001 * (acc.map nd).sum →
  ∃ m : Nd, Ev (fun k => marginaliaref05_cut.l0 k (depth : Int) ((left - 1 - (acc.map nd).sum : Nat) : Int) (i : Int) n.f0 n.f1.f0 n.f1.f1 n.f2 k0 t.f0 t.f1 acc) (m.f0, m.f1.f0, m.f1.f1, m.f2, ((left - nd m : Nat) : Int)) ∧ nd m ≤ left ∧ wd m ≤ 20001 * nd m := by
 intro r
 induction r with
 | nil =>
  intro i acc hd ha hx hn hw; have := le_of_nil hd; have e1 : nd ⟨k0, t, acc⟩ = 1 + (acc.map nd).sum := nd_eq _; have e2 : wd ⟨k0, t, acc⟩ = t.f1.size + (acc.map wd).sum := wd_eq _; refine ⟨⟨k0, t, acc⟩, Ev.shift ?_, by omega, by rw [e1, e2]; omega⟩; simp only [marginaliaref05_cut.l0]; refine Ev.neg (by omega) ?_; rw [show left - nd ⟨k0, t, acc⟩ = left - 1 - (acc.map nd).sum by omega]; exact Ev.now _
 | cons e r ih =>
  intro i acc hd ha hx hn hw; have hlt := lt_of_drop hd; have hal := len_le acc; have e1 : nd ⟨k0, t, acc⟩ = 1 + (acc.map nd).sum := nd_eq _; have e2 : wd ⟨k0, t, acc⟩ = t.f1.size + (acc.map wd).sum := wd_eq _
  have stop : ∃ m : Nd, Ev (fun k => some (k0, t.f0, t.f1, acc, ((left - 1 - (acc.map nd).sum : Nat) : Int))) (m.f0, m.f1.f0, m.f1.f1, m.f2, ((left - nd m : Nat) : Int)) ∧ nd m ≤ left ∧ wd m ≤ 20001 * nd m := by
   refine ⟨⟨k0, t, acc⟩, ?_, by omega, by rw [e1, e2]; omega⟩; rw [show left - nd ⟨k0, t, acc⟩ = left - 1 - (acc.map nd).sum by omega]; exact Ev.now _
  by_cases h1 : 0 < left - 1 - (acc.map nd).sum
  ·by_cases h2 : depth ≤ 1002
   ·obtain ⟨x, hx1, hx2, hx3⟩ := hx e List.mem_cons_self (left - 1 - (acc.map nd).sum) (depth + 1) (by omega) (by omega) (by omega); have hxp := nd_pos x; obtain ⟨m, hm, hm2⟩ := ih (i + 1) (acc ++ [x]) (drop_next hd) (by simp [ha]) (fun y hy => hx y (List.mem_cons_of_mem _ hy)) (by rw [nds_append]; omega) (by rw [nds_append, wds_append]; omega); refine ⟨m, Ev.shift ?_, hm2⟩; simp only [marginaliaref05_cut.l0]; rw [rd_nd hd, w64 (n := (depth : Int) + 1) (by omega) (by omega), w64 (n := (i : Int) + 1) (by omega) (by omega)]; refine Ev.pos (by omega) (Ev.pos (by omega) (Ev.pos (by omega) (Ev.pos (by omega) (Ev.bind (by exact_mod_cast hx1) ?_)))); refine Ev.pos (by omega) ?_; rw [show left - 1 - ((acc ++ [x]).map nd).sum = left - 1 - (acc.map nd).sum - nd x by rw [nds_append]; omega] at hm; simp only [Nd.eta]; exact hm
   ·obtain ⟨m, hm, hm2⟩ := stop; refine ⟨m, Ev.shift ?_, hm2⟩; simp only [marginaliaref05_cut.l0]; exact Ev.pos (by omega) (Ev.pos (by omega) (Ev.neg (by omega) hm))
  ·obtain ⟨m, hm, hm2⟩ := stop; refine ⟨m, Ev.shift ?_, hm2⟩; simp only [marginaliaref05_cut.l0]; exact Ev.pos (by omega) (Ev.neg (by omega) hm)
theorem cut_ev : ∀ n : Nd, cutP n := by
 refine Nd.ind ?_; intro n ih left depth h1 h2 h3; obtain ⟨t, ht, hz, _⟩ := One_ev n.f1.f0 n.f1.f1; obtain ⟨m, hm, hm2⟩ := cut_loop n n.f0 ⟨n.f1.f0, t⟩ hz left depth h2 h3 n.f2 0 [] rfl rfl ih (by simpa using h1) (by simp); refine ⟨m, Ev.shift ?_, hm2⟩; simp only [marginaliaref05_cut.f]; refine Ev.bind1 ht ?_; rw [w64 (n := (left : Int) - 1) (by omega) (by omega), show (left : Int) - 1 = ((left - 1 - (([] : List Nd).map nd).sum : Nat) : Int) by simp only [List.map_nil, List.sum_nil]; omega]; exact hm
/-- The law's cut: at most 600 leaves and nodes, with texts of at most 20001 bytes. -/
theorem lawcut_ev (n : Nd) : ∃ m : Nd, Ev (fun k => marginalialaw05_cut.f k n.f0 n.f1.f0 n.f1.f1 n.f2) (m.f0, m.f1.f0, m.f1.f1, m.f2) ∧ nd m ≤ 600 ∧ wd m ≤ 12000600 := by
 obtain ⟨m, h1, h2, h3⟩ := cut_ev n 600 0 (by omega) (by omega) (by omega); refine ⟨m, ?_, h2, by omega⟩; unfold marginalialaw05_cut.f marginaliaref05_Cut.f; exact Ev.bind (Ev.bind h1 (Ev.now _)) (Ev.now _)
/-! ### positions -/
def wds (l : List Nd) : Nat := (l.map wd).sum
theorem wds_take_succ {l : List Nd} {i : Nat} {x : Nd} (h : l[i]? = some x) : wds (l.take (i + 1)) = wds (l.take i) + wd x := by
 unfold wds; rw [List.take_add_one, h, List.map_append, List.sum_append]
 simp
theorem wds_take_le (l : List Nd) (i : Nat) : wds (l.take i) ≤ wds l := by
 unfold wds
 conv => rhs; rw [← List.take_append_drop i l, List.map_append, List.sum_append]
 omega
theorem wds_split {l : List Nd} {i : Nat} {x : Nd} (h : l[i]? = some x) : wds (l.take i) + wd x ≤ wds l := by
 rw [← wds_take_succ h]; exact wds_take_le l _
theorem wd_wds (n : Nd) : wd n = n.f1.f1.size + wds n.f2 := wd_eq n
/-- What is at a position, and where it begins. -/
def atp : List Int → Nd → Option (Nd × Nat)
 | [], n => some (n, 0)
 | i :: p, n => if 0 ≤ i then (n.f2[i.toNat]?).bind fun x => (atp p x).map fun y => (y.1, wds (n.f2.take i.toNat) + y.2) else none
theorem atp_sm : ∀ {p : List Int} {n x : Nd} {o : Nat}, sm n → atp p n = some (x, o) → sm x ∧ o + wd x ≤ wd n := by
 intro p
 induction p with
 | nil =>
  intro n x o hs h; simp only [atp, Option.some.injEq, Prod.mk.injEq] at h; obtain ⟨rfl, rfl⟩ := h; exact ⟨hs, by omega⟩
 | cons i p ih =>
  intro n x o hs h; rw [atp] at h
  split at h
  ·cases e : n.f2[i.toNat]? with
   | none => rw [e] at h; cases h
   | some y =>
    rw [e, Option.bind_some] at h
    cases e2 : atp p y with
    | none => rw [e2] at h; cases h
    | some z =>
     rw [e2] at h; simp only [Option.map_some, Option.some.injEq, Prod.mk.injEq] at h; obtain ⟨rfl, rfl⟩ := h; obtain ⟨q1, q2⟩ := ih (hs.kid (List.mem_of_getElem? e)) e2; have := wds_split e; have := wd_wds n; exact ⟨q1, by omega⟩
  ·cases h
theorem atp_fo : ∀ {p : List Int} {n x : Nd} {o m : Nat}, fo m n = true → atp p n = some (x, o) → ∃ m', fo m' x = true := by
 intro p
 induction p with
 | nil =>
  intro n x o m hs h; simp only [atp, Option.some.injEq, Prod.mk.injEq] at h; obtain ⟨rfl, rfl⟩ := h; exact ⟨m, hs⟩
 | cons i p ih =>
  intro n x o m hs h; rw [atp] at h
  split at h
  ·cases e : n.f2[i.toNat]? with
   | none => rw [e] at h; cases h
   | some y =>
    rw [e, Option.bind_some] at h
    cases e2 : atp p y with
    | none => rw [e2] at h; cases h
    | some z =>
     rw [e2] at h; simp only [Option.map_some, Option.some.injEq, Prod.mk.injEq] at h; obtain ⟨rfl, rfl⟩ := h; have hy := List.mem_of_getElem? e
     cases m with
     | zero => cases hs
     | succ m =>
      rw [fo] at hs
      split at hs
      ·rw [Bool.and_eq_true, decide_eq_true_eq] at hs; rw [List.eq_nil_of_length_eq_zero hs.1] at hy
       cases hy
      ·rw [Bool.and_eq_true] at hs; exact ih (List.all_eq_true.1 hs.2 y hy) e2
  ·cases h
theorem rd_drop {l : List Int} {i : Nat} {e : Int} {r : List Int} (h : l.drop i = e :: r) : rd l (i : Int) = e := by
 have h1 : l[i]? = some e := by
  have := congrArg (fun x : List Int => x[0]?) h
  simpa [List.getElem?_drop] using this
 simp [rd, List.getD_eq_getElem?_getD, h1]
theorem rd_at {l : List Nd} {i : Nat} {e : Nd} (h : l[i]? = some e) : rd_T26 l (i : Int) = e := by
 simp [rd_T26, List.getD_eq_getElem?_getD, h]
theorem at_in (q : List Int) (i : Int) (j : Nat) (n : Nd) (h0 : 0 ≤ i) (hi : i.toNat < n.f2.length) (hs : sm n) (l : List Nd) (hl : l = n.f2.take i.toNat) (x : Nd) (hx : n.f2[i.toNat]? = some x) {R : Int × Int × ByteArray × List Nd × Int × Bool} (hq : j < q.length) (hqz : q.length ≤ 1000000000) (off : Nat)
  (H : Ev (fun k => tree_at.l0 k ((off + wds l : Nat) : Int) q (q.length : Int) ((j + 1 : Nat) : Int) x.f0 x.f1.f0 x.f1.f1 x.f2) R) (ho : off + wds l ≤ 1000000000) : ∀ (r : List Nd) (a : Nat), l.drop a = r →
  Ev (fun k => tree_at.l1 k ((off + wds (l.take a) : Nat) : Int) i q (q.length : Int) (j : Int) l (l.length : Int) (a : Int) n.f0 n.f1.f0 n.f1.f1 n.f2) R := by
 have hll : l.length ≤ 1000000 := (by rw [hl, List.length_take]; have := hs.len; omega)
 intro r
 induction r with
 | nil =>
  intro a hd; have hle := le_of_nil hd
  have e0 : rd_T26 n.f2 i = x := (by have := rd_at hx; rwa [Int.toNat_of_nonneg h0] at this)
  refine Ev.shift ?_; simp only [tree_at.l1]; rw [e0, List.take_of_length_le hle]; refine Ev.neg (by omega) (Ev.pos h0 (Ev.pos (by omega) ?_)); rw [w64 (n := (j : Int) + 1) (by omega) (by omega)]
  exact_mod_cast H
 | cons e r ih =>
  intro a hd; have hlt := lt_of_drop hd
  have h1 : l[a]? = some e := by
   have := congrArg (fun x : List Nd => x[0]?) hd
   simpa [List.getElem?_drop] using this
  have hm : e ∈ n.f2 := List.mem_of_mem_take (by rw [← hl]; exact List.mem_of_getElem? h1); have hse := hs.kid hm; have hw := wds_split h1; have hw2 := wds_take_succ h1; refine Ev.shift ?_; simp only [tree_at.l1]; rw [rd_nd hd]; refine Ev.pos (by omega) (Ev.pos (by omega) (Ev.pos (by omega) (Ev.bind (width_ev e hse.1 hse.2) ?_))); rw [w64 (n := ((off + wds (l.take a) : Nat) : Int) + (wd e : Int)) (by omega) (by omega), w64 (n := (a : Int) + 1) (by omega) (by omega)]; have := ih (a + 1) (drop_next hd); rw [hw2, ← Nat.add_assoc] at this
  exact_mod_cast this
def ans : Nat → Option (Nd × Nat) → Int × Int × ByteArray × List Nd × Int × Bool
 | off, some (x, o) => (x.f0, x.f1.f0, x.f1.f1, x.f2, ((off + o : Nat) : Int), true)
 | _, none => (0, 0, ⟨#[]⟩, [], 0, false)
theorem at_loop (q : List Int) (hqz : q.length ≤ 1000000000) : ∀ (p : List Int) (j : Nat) (n : Nd) (off : Nat), q.drop j = p → sm n → off + wd n ≤ 1000000000 →
  Ev (fun k => tree_at.l0 k (off : Int) q (q.length : Int) (j : Int) n.f0 n.f1.f0 n.f1.f1 n.f2) (ans off (atp p n)) := by
 intro p
 induction p with
 | nil =>
  intro j n off hd hs ho; have := le_of_nil hd; refine Ev.shift ?_; simp only [tree_at.l0]; refine Ev.neg (by omega) ?_; exact Ev.now _
 | cons i p ih =>
  intro j n off hd hs ho; have hlt := lt_of_drop hd; refine Ev.shift ?_; simp only [tree_at.l0]; rw [rd_drop hd]; refine Ev.pos (by omega) (Ev.pos (by omega) (Ev.pos (by omega) ?_)); rw [atp]; by_cases h0 : i < 0
  ·rw [if_neg (by omega)]; refine Ev.pos h0 (Ev.shift ?_); simp only [tree_at.j1]; exact Ev.pos trivial (Ev.now _)
  ·rw [if_pos (by omega)]; refine Ev.neg h0 (Ev.shift ?_); simp only [tree_at.j1]; by_cases h1 : i.toNat < n.f2.length
   ·have hx : n.f2[i.toNat]? = some (n.f2[i.toNat]'h1) := List.getElem?_eq_getElem h1; generalize n.f2[i.toNat]'h1 = x at hx; rw [hx, Option.bind_some]; have hsx := hs.kid (List.mem_of_getElem? hx); have hw := wds_split hx; have hwn := wd_wds n; refine Ev.neg (by rw [decide_eq_false (by omega)]; decide) (Ev.pos (by omega) (Ev.pos (by omega) ?_)); refine Ev.bind1 rfl ?_; have H := ih (j + 1) x (off + wds (n.f2.take i.toNat)) (drop_next hd) hsx (by omega)
    have e2 : ans (off + wds (n.f2.take i.toNat)) (atp p x) = ans off ((atp p x).map fun y => (y.1, wds (n.f2.take i.toNat) + y.2)) := by
     cases atp p x with
     | none => rfl
     | some z => show (_, _, _, _, _, _) = (_, _, _, _, _, _); rw [Nat.add_assoc]
    rw [e2] at H; have := at_in q i j n (by omega) h1 hs (n.f2.take i.toNat) rfl x hx hlt hqz off H (by omega) _ 0 rfl
    simpa [wds] using this
   ·rw [List.getElem?_eq_none (by omega)]; refine Ev.pos (decide_eq_true (by omega)) ?_; exact Ev.now _
theorem at_ev (n : Nd) (p : List Int) (hs : sm n) (hp : p.length ≤ 1000000000) : Ev (fun k => tree_at.f k n.f0 n.f1.f0 n.f1.f1 n.f2 p) (ans 0 (atp p n)) := by
 unfold tree_at.f; exact at_loop p hp p 0 n 0 rfl hs (by have := hs.1; omega)
/-- find's answer. -/
def fans (b : Bool) : Option (Nd × Nat) → Int × Int × ByteArray × List Nd × Int × Int
 | some (x, o) => if b = true then (x.f0, x.f1.f0, x.f1.f1, x.f2, (o : Int), 0) else (0, 0, ⟨#[]⟩, [], 0, 4)
 | none => if b = true then (0, 0, ⟨#[]⟩, [], 0, 2) else (0, 0, ⟨#[]⟩, [], 0, 4)
theorem find_ev (n : Nd) (p : List Int) (hs : sm n) (hp : p.length ≤ 1000000000) : Ev (fun k => tree_find.f k n.f0 n.f1.f0 n.f1.f1 n.f2 p) (fans (fmd n) (atp p n)) := by
 unfold tree_find.f; refine Ev.bind (IsFormed_ev n hs) ?_; by_cases h : fmd n = true
 ·rw [h]; refine Ev.pos rfl (Ev.bind (at_ev n p hs hp) ?_)
  cases atp p n with
  | none => exact Ev.now _
  | some z =>
   have e1 : ans 0 (some z) = (z.1.f0, z.1.f1.f0, z.1.f1.f1, z.1.f2, (z.2 : Int), true) := (by show (_, _, _, _, _, _) = _; rw [Nat.zero_add])
   rw [e1]; exact Ev.now _
 ·rw [Bool.not_eq_true] at h; rw [h]; refine Ev.neg (by decide) ?_
  cases atp p n with
  | none => exact Ev.now _
  | some z => exact Ev.now _
theorem ok_ev : ∀ n : Nd, sm n → ∃ K, ∀ k, K ≤ k → tree_Clone.ok k n = true := by
 refine Nd.ind ?_; intro n ih hs
 have : ∀ l : List Nd, (∀ x ∈ l, x ∈ n.f2) → ∃ K, ∀ k, K ≤ k → l.all (tree_Clone.ok k) = true := by
  intro l
  induction l with
  | nil => intro _; exact ⟨0, fun _ _ => rfl⟩
  | cons x r ihl =>
   intro h; obtain ⟨K1, h1⟩ := ih x (h x List.mem_cons_self) (hs.kid (h x List.mem_cons_self)); obtain ⟨K2, h2⟩ := ihl (fun y hy => h y (List.mem_cons_of_mem _ hy)); exact ⟨max K1 K2, fun k hk => by rw [List.all_cons, h1 k (by omega), h2 k (by omega)]; rfl⟩
 obtain ⟨K, hK⟩ := this n.f2 (fun _ h => h); refine ⟨K + 1, fun k hk => ?_⟩
 obtain ⟨k, rfl⟩ : ∃ j, k = j + 1 := ⟨k - 1, by omega⟩
 rw [tree_Clone.ok, hK k (by omega), decide_eq_true hs.len]; rfl
theorem clone_ev (n : Nd) (hs : sm n) : Ev (fun k => tree_Clone.f k n.f0 n.f1.f0 n.f1.f1 n.f2) (n.f0, n.f1.f0, n.f1.f1, n.f2) := by
 obtain ⟨K, hK⟩ := ok_ev n hs; refine ⟨K, fun k hk => ?_⟩
 show tree_Clone.f k n.f0 n.f1.f0 n.f1.f1 n.f2 = _
 unfold tree_Clone.f; rw [Nd.eta, if_pos (hK k hk)]
theorem At_ev (n : Nd) (p : List Int) (hs : sm n) (hp : p.length ≤ 1000000000) (hf : fmd n = true) {x : Nd} {o : Nat} (hx : atp p n = some (x, o)) : Ev (fun k => tree_At.f k n.f0 n.f1.f0 n.f1.f1 n.f2 p) (x.f0, x.f1.f0, x.f1.f1, x.f2, 0) := by
 have hw := atp_sm hs hx; unfold tree_At.f; refine Ev.bind (find_ev n p hs hp) ?_; rw [hf, hx]; refine Ev.pos rfl (Ev.bind (clone_ev x hw.1) ?_); exact Ev.now _
end Go.Proofs.Ytnafnieocpkkhaa.P

namespace Go.Proofs.Ytnafnieocpkkhaa.P
open Go.RowKit Go.Proofs.YtnafnieocpkkhaaW.PrintWords Go.Proofs.YtnafnieocpkkhaaW.PrintLast Go.Proofs.YtnafnieocpkkhaaW.PrintMore
attribute [local go_sem] max2_int min2_int max_two min_two max_three min_three max_four min_four
set_option linter.unusedVariables false
set_option linter.unusedSimpArgs false

/-- The first kid, from one on, in which an offset is: which one, the kid, the offset in it. -/
def tree_Find.scan (k : Nat) : List (S26) → Int → Nat → Option (Nat × S26 × Int)
 | [], _, _ => none
 | x :: r, off, i => (tree_width.f k x.f0 x.f1.f0 x.f1.f1 x.f2).bind fun w => if off < w then some (i, x, off) else tree_Find.scan k r (wrap64 (off - w)) (i + 1)
def tree_Find.go (k : Nat) : Nat → S26 → Int → List Int → Option (List Int)
 | 0, _, _, _ => none
 | m + 1, n, off, acc => if n.f0 = 1 then some acc else (tree_Find.scan k n.f2 off 0).bind fun x => if acc.length < 17592186044416 then tree_Find.go k m x.2.1 x.2.2 (acc ++ [(x.1 : Int)]) else none
def tree_Find.f (k : Nat) (a0_0 : Int) (a0_1 : Int) (a0_2 : ByteArray) (l0_3 : List (S26)) (a1 : Int) : Option (List Int × Int) :=
 (tree_IsFormed.f k a0_0 a0_1 a0_2 l0_3).bind fun b => if b = true then
  (tree_width.f k a0_0 a0_1 a0_2 l0_3).bind fun w => if a1 < 0 then some ([], 2) else if a1 > w then some ([], 2) else if w = 0 then some ([], 5) else (tree_Find.go k k ⟨a0_0, ⟨a0_1, a0_2⟩, l0_3⟩ (mn a1 (wrap64 (w - 1))) []).bind fun l => some (l, 0)
 else some ([], 4)
theorem tree_Find.infoInt : (Try.prog.info? 3).map (fun i => (i.zero, i.size, i.bytes)) = some (some (.int .i64 0), 1, 8) := by kernel_rfl
attribute [local go_sem] max2_int min2_int max_two min_two max_three min_three max_four min_four
set_option maxHeartbeats 8000000 in
set_option maxRecDepth 100000 in
theorem tree_Find.calls (k : Nat) (a0_0 : Int) (a0_1 : Int) (a0_2 : ByteArray) (A0_3 : Option Addr) (c0_3 : Nat) (l0_3 : List (S26)) (a1 : Int) (r1 : List Int) (r2 : Int) (w : World) (hr0_3 : Kd.C k26 w A0_3 l0_3.length l0_3) (hc0_3 : l0_3.length ≤ c0_3) (h : tree_Find.f k a0_0 a0_1 a0_2 l0_3 a1 = some (r1, r2)) :
  Calls Try.prog 16 #[.agg #[.int .i64 a0_0, .int .i64 a0_1, .string a0_2, .slice A0_3 l0_3.length c0_3], .int .i64 a1] w fun e w' => ∃ v0_ : Value, e = .returned (.tuple #[v0_, .int .i64 r2]) ∧ Kd.R (Kd.int .i64) 3 w' w.heap.size (fun _ => True) v0_ r1 ∧ Below w.heap.size w w' := by
 have hu := Try.underlying26; unfold tree_Find.f at h; obtain ⟨b, hb, h⟩ := Option.bind_eq_some_iff.mp h; have HB := Aside0.mk (below_alloc (Below.refl w.heap.size w) (.cells #[.int .i64 a0_0, .int .i64 a0_1, .string a0_2, .slice A0_3 l0_3.length c0_3] 26)); have HG := Aside0.mk (blk_new w (.cells #[.int .i64 a0_0, .int .i64 a0_1, .string a0_2, .slice A0_3 l0_3.length c0_3] 26)); have HF := Aside0.mk hb; have HR := Aside0.mk hr0_3; clear hb hr0_3
 cases b with
 | false =>
  rw [if_neg (by decide)] at h; simp only [Option.some.injEq, Prod.mk.injEq] at h; obtain ⟨rfl, rfl⟩ := h; go_enter Try.func16, Try.ntmps16; go_wp2
  go_step3
  go_wp2_with (go_at_call 30; refine (tree_IsFormed.calls k _ _ _ _ _ _ _ _ (Kd.C_below HR.out HB.out) hc0_3 HF.out).mono ?_; rintro e w1 ⟨rfl, hb⟩; have HB1 := Aside0.mk (token_good.step HB.out hb); clear hb)
  (try rw [Exit.noGoto_ret])
  go_ret2
  exact ⟨_, rfl, Kd.R_nil _ _ _ _ _, HB1.out⟩
 | true =>
  rw [if_pos rfl] at h; obtain ⟨wd, hw, h⟩ := Option.bind_eq_some_iff.mp h; have HW := Aside0.mk hw; clear hw; by_cases c1 : a1 < 0
  ·rw [if_pos c1] at h; simp only [Option.some.injEq, Prod.mk.injEq] at h; obtain ⟨rfl, rfl⟩ := h; have c1b : decide (a1 < 0) = true := decide_eq_true c1; clear c1; go_enter Try.func16, Try.ntmps16; go_wp2
   go_step3
   go_wp2_with (first | (go_at_call 30; refine (tree_IsFormed.calls k _ _ _ _ _ _ _ _ (Kd.C_below HR.out HB.out) hc0_3 HF.out).mono ?_; rintro e w1 ⟨rfl, hb⟩; have HB1 := Aside0.mk (token_good.step HB.out hb); have HG1 := Aside0.mk (blk_below HG.out hb); have z0 : w1.cell? ⟨w.heap.size, 0, none⟩ = some (.int .i64 a0_0) := Lib.cell_of_heap HG1.out 0; have z1 : w1.cell? ⟨w.heap.size, 1, none⟩ = some (.int .i64 a0_1) := Lib.cell_of_heap HG1.out 1; have z2 : w1.cell? ⟨w.heap.size, 2, none⟩ = some (.string a0_2) := Lib.cell_of_heap HG1.out 2; have z3 : w1.cell? ⟨w.heap.size, 3, none⟩ = some (.slice A0_3 l0_3.length c0_3) := Lib.cell_of_heap HG1.out 3; clear hb) | (go_at_call 55; refine (tree_width.calls k _ _ _ _ _ _ _ _ (Kd.C_below HR.out HB1.out) hc0_3 HW.out).mono ?_; rintro e w2 ⟨rfl, hb⟩; have HB2 := Aside0.mk (token_good.step HB1.out hb); have HG2 := Aside0.mk (blk_below HG1.out hb); clear hb))
   (try rw [Exit.noGoto_ret])
   go_ret2
   exact ⟨_, rfl, Kd.R_nil _ _ _ _ _, HB2.out⟩
  ·rw [if_neg c1] at h; have c1b : decide (a1 < 0) = false := decide_eq_false c1; by_cases c2 : a1 > wd
   ·rw [if_pos c2] at h; simp only [Option.some.injEq, Prod.mk.injEq] at h; obtain ⟨rfl, rfl⟩ := h; have c2b : decide (wd < a1) = true := decide_eq_true c2; clear c1 c2; go_enter Try.func16, Try.ntmps16; go_wp2
    go_step3
    go_wp2_with (first | (go_at_call 30; refine (tree_IsFormed.calls k _ _ _ _ _ _ _ _ (Kd.C_below HR.out HB.out) hc0_3 HF.out).mono ?_; rintro e w1 ⟨rfl, hb⟩; have HB1 := Aside0.mk (token_good.step HB.out hb); have HG1 := Aside0.mk (blk_below HG.out hb); have z0 : w1.cell? ⟨w.heap.size, 0, none⟩ = some (.int .i64 a0_0) := Lib.cell_of_heap HG1.out 0; have z1 : w1.cell? ⟨w.heap.size, 1, none⟩ = some (.int .i64 a0_1) := Lib.cell_of_heap HG1.out 1; have z2 : w1.cell? ⟨w.heap.size, 2, none⟩ = some (.string a0_2) := Lib.cell_of_heap HG1.out 2; have z3 : w1.cell? ⟨w.heap.size, 3, none⟩ = some (.slice A0_3 l0_3.length c0_3) := Lib.cell_of_heap HG1.out 3; clear hb) | (go_at_call 55; refine (tree_width.calls k _ _ _ _ _ _ _ _ (Kd.C_below HR.out HB1.out) hc0_3 HW.out).mono ?_; rintro e w2 ⟨rfl, hb⟩; have HB2 := Aside0.mk (token_good.step HB1.out hb); have HG2 := Aside0.mk (blk_below HG1.out hb); clear hb))
    (try rw [Exit.noGoto_ret])
    go_ret2
    exact ⟨_, rfl, Kd.R_nil _ _ _ _ _, HB2.out⟩
   ·rw [if_neg c2] at h; have c2b : decide (wd < a1) = false := decide_eq_false c2; by_cases c3 : wd = 0
    ·rw [if_pos c3] at h; simp only [Option.some.injEq, Prod.mk.injEq] at h; obtain ⟨rfl, rfl⟩ := h; have c3b : (wd == 0) = true := beq_iff_eq.mpr c3; clear c1 c2 c3; go_enter Try.func16, Try.ntmps16; go_wp2
     go_step3
     go_wp2_with (first | (go_at_call 30; refine (tree_IsFormed.calls k _ _ _ _ _ _ _ _ (Kd.C_below HR.out HB.out) hc0_3 HF.out).mono ?_; rintro e w1 ⟨rfl, hb⟩; have HB1 := Aside0.mk (token_good.step HB.out hb); have HG1 := Aside0.mk (blk_below HG.out hb); have z0 : w1.cell? ⟨w.heap.size, 0, none⟩ = some (.int .i64 a0_0) := Lib.cell_of_heap HG1.out 0; have z1 : w1.cell? ⟨w.heap.size, 1, none⟩ = some (.int .i64 a0_1) := Lib.cell_of_heap HG1.out 1; have z2 : w1.cell? ⟨w.heap.size, 2, none⟩ = some (.string a0_2) := Lib.cell_of_heap HG1.out 2; have z3 : w1.cell? ⟨w.heap.size, 3, none⟩ = some (.slice A0_3 l0_3.length c0_3) := Lib.cell_of_heap HG1.out 3; clear hb) | (go_at_call 55; refine (tree_width.calls k _ _ _ _ _ _ _ _ (Kd.C_below HR.out HB1.out) hc0_3 HW.out).mono ?_; rintro e w2 ⟨rfl, hb⟩; have HB2 := Aside0.mk (token_good.step HB1.out hb); have HG2 := Aside0.mk (blk_below HG1.out hb); clear hb))
     (try rw [Exit.noGoto_ret])
     go_ret2
     exact ⟨_, rfl, Kd.R_nil _ _ _ _ _, HB2.out⟩
    ·rw [if_neg c3] at h; have c3b : (wd == 0) = false := beq_eq_false_iff_ne.mpr c3; obtain ⟨l, hl, h⟩ := Option.bind_eq_some_iff.mp h; simp only [Option.some.injEq, Prod.mk.injEq] at h; obtain ⟨rfl, rfl⟩ := h
     obtain ⟨o1, ho1⟩ : ∃ o1 : Int, mn a1 (wrap64 (wd - 1)) = o1 := ⟨_, rfl⟩
     rw [ho1] at hl
     have ho2 : (if wrap64 (wd - 1) < a1 then wrap64 (wd - 1) else a1) = o1 := (by rw [← ho1]; unfold mn; rfl)
     have HL := Aside0.mk hl; clear c1 c2 c3 hl ho1; go_enter Try.func16, Try.ntmps16; go_wp2
     go_step3
     go_wp2_with (first | (go_at_call 30; refine (tree_IsFormed.calls k _ _ _ _ _ _ _ _ (Kd.C_below HR.out HB.out) hc0_3 HF.out).mono ?_; rintro e w1 ⟨rfl, hb⟩; have HB1 := Aside0.mk (token_good.step HB.out hb); have HG1 := Aside0.mk (blk_below HG.out hb); have z0 : w1.cell? ⟨w.heap.size, 0, none⟩ = some (.int .i64 a0_0) := Lib.cell_of_heap HG1.out 0; have z1 : w1.cell? ⟨w.heap.size, 1, none⟩ = some (.int .i64 a0_1) := Lib.cell_of_heap HG1.out 1; have z2 : w1.cell? ⟨w.heap.size, 2, none⟩ = some (.string a0_2) := Lib.cell_of_heap HG1.out 2; have z3 : w1.cell? ⟨w.heap.size, 3, none⟩ = some (.slice A0_3 l0_3.length c0_3) := Lib.cell_of_heap HG1.out 3; clear hb) | (go_at_call 55; refine (tree_width.calls k _ _ _ _ _ _ _ _ (Kd.C_below HR.out HB1.out) hc0_3 HW.out).mono ?_; rintro e w2 ⟨rfl, hb⟩; have HB2 := Aside0.mk (token_good.step HB1.out hb); have HG2 := Aside0.mk (blk_below HG1.out hb); clear hb))
     go_step3
     go_wp2
     go_loopg [1, 7] k (fun kq v1 v7 w' => ∃ (n : S26) (A : Option Addr) (cc : Nat) (off : Int) (acc : List Int), v1 = .int .i64 off ∧ Aside0 (tree_Find.go k kq n off acc = some l) ∧ Aside0 (Kd.C k26 w A n.f2.length n.f2 ∧ n.f2.length ≤ cc) ∧ Aside0 (w'.heap[w.heap.size]? = some (.cells #[.int .i64 n.f0, .int .i64 n.f1.f0, .string n.f1.f1, .slice A n.f2.length cc] 26 (0, 0))) ∧ Aside0 (Kd.R (Kd.int .i64) 3 w' w.heap.size (fun _ => True) v7 acc) ∧ Aside0 (Below w.heap.size w w'))
     case atStart => exact ⟨⟨a0_0, ⟨a0_1, a0_2⟩, l0_3⟩, A0_3, c0_3, o1, [], (by first | rfl | rw [ho2]), HL, ⟨HR.out, hc0_3⟩, HG2, ⟨Kd.R_nil _ _ _ _ _⟩, HB2⟩
     case round =>
      clear HL HG HG1 HG2 HB HB1 HB2 HF HW z0 z1 z2 z3 ho2 c1b c2b c3b; obtain ⟨n, A, cc, off, acc, rfl, HA, HC, HG, HO, HB⟩ := hrel
      cases gk with
      | zero => exact absurd HA.out (by simp [tree_Find.go])
      | succ kq =>
      have H := HA.out; rw [tree_Find.go] at H; clear HA; have z0 : wr.cell? ⟨w.heap.size, 0, none⟩ = some (.int .i64 n.f0) := Lib.cell_of_heap HG.out 0; have z3 : wr.cell? ⟨w.heap.size, 3, none⟩ = some (.slice A n.f2.length cc) := Lib.cell_of_heap HG.out 3; have hmax : n.f2.length ≤ 9223372036854775807 := HC.out.1.2.1; by_cases c4 : n.f0 = 1
      ·rw [if_pos c4] at H; injection H with H; subst H; have c4b : (n.f0 != 1) = false := bne_eq_false_iff_eq.mpr c4; clear c4; go_wp2
       (try rw [Exit.noGoto_ret])
       go_ret2
       exact ⟨_, rfl, HO.out, HB.out⟩
      ·rw [if_neg c4] at H; have c4b : (n.f0 != 1) = true := bne_iff_ne.mpr c4; clear c4; obtain ⟨⟨j, x, o2⟩, hs, Hn⟩ := Option.bind_eq_some_iff.mp H; clear H; obtain ⟨hlen, Hn⟩ := Ut.ite_some Hn; have HS := Aside0.mk hs; have HN := Aside0.mk Hn; clear hs Hn; go_wp2
       go_loopg [1, 7, 35] n.f2.length (fun kq2 v1 v7 v35 w' => ∃ (i : Nat) (o : Int), v1 = .int .i64 o ∧ v35 = .int .i64 (i : Int) ∧ Aside0 (i + kq2 = n.f2.length) ∧ Aside0 (tree_Find.scan k (n.f2.drop i) o i = some (j, x, o2)) ∧ Aside0 (w'.heap[w.heap.size]? = some (.cells #[.int .i64 n.f0, .int .i64 n.f1.f0, .string n.f1.f1, .slice A n.f2.length cc] 26 (0, 0))) ∧ Aside0 (Kd.R (Kd.int .i64) 3 w' w.heap.size (fun _ => True) v7 acc) ∧ Aside0 (Below w.heap.size w w'))
       case atStart => exact ⟨0, off, rfl, rfl, ⟨by omega⟩, HS, HG, HO, HB⟩
       case round =>
        clear HS HG HO HB z0 z3; obtain ⟨i, o, rfl, rfl, HK, HS, HG, HO, HB⟩ := hrel; by_cases hlt : i < n.f2.length
        ·have hd1 : decide ((i : Int) < (n.f2.length : Int)) = true := decide_eq_true (by omega); have S := HS.out; rw [List.drop_eq_getElem_cons hlt] at S; simp only [tree_Find.scan] at S; obtain ⟨wy, hwy, Sn⟩ := Option.bind_eq_some_iff.mp S; clear S HS
         have hrd : rd_T26 n.f2 (i : Int) = n.f2[i] := (by simp [rd_T26, hlt])
         obtain ⟨ad, A3, c3, e, hx0, hx1, hx2, hx3, hl3, hC3⟩ := at_T26 HC.out.1 (i : Int) (by omega) (by omega); rw [hrd] at hx0 hx1 hx2 hx3 hl3 hC3; rw [Int.toNat_natCast] at hx0 hx1 hx2 hx3; subst e; replace hx0 := zh HB hx0; replace hx1 := zh HB hx1; replace hx2 := zh HB hx2; replace hx3 := zh HB hx3; clear hrd; generalize n.f2[i] = y at *; have HW := Aside0.mk hwy; have HC3 := Aside0.mk (And.intro hC3 hl3); have HB1 := Aside0.mk (below_alloc HB.out (.cells #[.int .i64 y.f0, .int .i64 y.f1.f0, .string y.f1.f1, .slice A3 y.f2.length c3] 26)); have HG1 := Aside0.mk (blk_alloc HG.out (.cells #[.int .i64 y.f0, .int .i64 y.f1.f0, .string y.f1.f1, .slice A3 y.f2.length c3] 26)); have HY1 := Aside0.mk (blk_new wr (.cells #[.int .i64 y.f0, .int .i64 y.f1.f0, .string y.f1.f1, .slice A3 y.f2.length c3] 26)); have HO1 := Aside0.mk (Kd.R_alloc HO.out (.cells #[.int .i64 y.f0, .int .i64 y.f1.f0, .string y.f1.f1, .slice A3 y.f2.length c3] 26)); clear hwy hC3 hl3; by_cases c5 : o < wy
         ·rw [if_pos c5] at Sn; simp only [Option.some.injEq, Prod.mk.injEq] at Sn; obtain ⟨rfl, rfl, rfl⟩ := Sn; have c5b : decide (o < wy) = true := decide_eq_true c5; clear c5
          go_wp2_with (first | (go_at_call 55; refine (tree_width.calls k _ _ _ _ _ _ _ _ (Kd.C_below HC3.out.1 HB1.out) HC3.out.2 HW.out).mono ?_; rintro e w3 ⟨rfl, hb⟩; have HB3 := Aside0.mk (token_good.step HB1.out hb); have HG3 := Aside0.mk (blk_below HG1.out hb); have HY3 := Aside0.mk (blk_below HY1.out hb); have HO3 := Aside0.mk (Kd.R_below HO1.out hb); clear hb) | (at_builtin; refine Kd.R_append (Kd.int .i64) (w0 := w) w.heap.size rfl (.tmp 45) (.tmp 47) 30 3 (.int .i64 0) 8 rfl Try.underlying30 tree_Find.infoInt rfl (by decide) (by omega) u7 acc (i : Int) [.int .i64 (i : Int)] (fun _ => True) (fun _ => False) rfl rfl rfl (fun _ hk => hk.elim) (fun _ _ => trivial) HO3.out HB3.out (below_size HB3.out) (by omega) ?_; intro v8 w4 ho hb hg hat; have HB4 := Aside0.mk hb; have HO4 := Aside0.mk ho; have HG4 := Aside0.mk (blk_grown HG3.out hg (Kd.R_ne HO3.out HG3.out (by decide))); have HY4 := Aside0.mk (blk_grown HY3.out hg (Kd.R_ne HO3.out HY3.out (by decide))); clear ho hb hg hat; have y0 : w4.cell? ⟨wr.heap.size, 0, none⟩ = some (.int .i64 y.f0) := Lib.cell_of_heap HY4.out 0; have y1 : w4.cell? ⟨wr.heap.size, 1, none⟩ = some (.int .i64 y.f1.f0) := Lib.cell_of_heap HY4.out 1; have y2 : w4.cell? ⟨wr.heap.size, 2, none⟩ = some (.string y.f1.f1) := Lib.cell_of_heap HY4.out 2; have y3 : w4.cell? ⟨wr.heap.size, 3, none⟩ = some (.slice A3 y.f2.length c3) := Lib.cell_of_heap HY4.out 3; have z0 : w4.cell? ⟨w.heap.size, 0, none⟩ = some (.int .i64 n.f0) := Lib.cell_of_heap HG4.out 0; have z1 : w4.cell? ⟨w.heap.size, 1, none⟩ = some (.int .i64 n.f1.f0) := Lib.cell_of_heap HG4.out 1; have z2 : w4.cell? ⟨w.heap.size, 2, none⟩ = some (.string n.f1.f1) := Lib.cell_of_heap HG4.out 2; have z3 : w4.cell? ⟨w.heap.size, 3, none⟩ = some (.slice (some ad) n.f2.length cc) := Lib.cell_of_heap HG4.out 3; have d0 := Lib.frozen_of_heap HG4.out 0; have d1 := Lib.frozen_of_heap HG4.out 1; have d2 := Lib.frozen_of_heap HG4.out 2; have d3 := Lib.frozen_of_heap HG4.out 3))
          go_roundg kq
          case measure => omega
          case rel => exact ⟨y, A3, c3, o, acc ++ [(i : Int)], rfl, HN, HC3, ⟨by refine blk_put (cs := #[.int .i64 y.f0, .int .i64 y.f1.f0, .string y.f1.f1, .slice (some ad) n.f2.length cc]) ?_ 3 _ rfl; refine blk_put (cs := #[.int .i64 y.f0, .int .i64 y.f1.f0, .string n.f1.f1, .slice (some ad) n.f2.length cc]) ?_ 2 _ rfl; refine blk_put (cs := #[.int .i64 y.f0, .int .i64 n.f1.f0, .string n.f1.f1, .slice (some ad) n.f2.length cc]) ?_ 1 _ rfl; refine blk_put (cs := #[.int .i64 n.f0, .int .i64 n.f1.f0, .string n.f1.f1, .slice (some ad) n.f2.length cc]) ?_ 0 _ rfl; exact HG4.out⟩, ⟨by refine Kd.R_set (Kd.R_set (Kd.R_set (Kd.R_set HO4.out HG4.out ?ht 0 _) (blk_put HG4.out 0 _ rfl) ?ht 1 _) (blk_put (blk_put HG4.out 0 _ rfl) 1 _ rfl) ?ht 2 _) (blk_put (blk_put (blk_put HG4.out 0 _ rfl) 1 _ rfl) 2 _ rfl) ?ht 3 _; intro q hq e; subst e; revert hq; decide⟩, ⟨by repeat (first | exact HB4.out | refine below_set ?_ (Nat.le_refl _))⟩⟩
         ·rw [if_neg c5] at Sn; have HS2 := Aside0.mk Sn; have c5b : decide (o < wy) = false := decide_eq_false c5; clear c5 Sn
          cases gk with
          | zero => exact absurd hlt (by have := HK.out; omega)
          | succ kq2 =>
          go_wp2_with (go_at_call 55; refine (tree_width.calls k _ _ _ _ _ _ _ _ (Kd.C_below HC3.out.1 HB1.out) HC3.out.2 HW.out).mono ?_; rintro e w3 ⟨rfl, hb⟩; have HB3 := Aside0.mk (token_good.step HB1.out hb); have HG3 := Aside0.mk (blk_below HG1.out hb); have HO3 := Aside0.mk (Kd.R_below HO1.out hb); clear hb)
          go_roundg kq2
          case measure => omega
          case rel => exact ⟨i + 1, _, rfl, by go_num, ⟨by have := HK.out; omega⟩, HS2, HG3, HO3, HB3⟩
        ·have S := HS.out; rw [List.drop_of_length_le (by have := HK.out; omega)] at S
         simp [tree_Find.scan] at S

end Go.Proofs.Ytnafnieocpkkhaa.P

namespace Go.Proofs.Ytnafnieocpkkhaa.P
open Go.RowKit Go.Proofs.YtnafnieocpkkhaaW.PrintWords Go.Proofs.YtnafnieocpkkhaaW.PrintLast Go.Proofs.YtnafnieocpkkhaaW.PrintMore
attribute [local go_sem] max2_int min2_int max_two min_two max_three min_three max_four min_four
set_option linter.unusedVariables false
set_option linter.unusedSimpArgs false

mutual
def tree_Cover.l0 : Nat → List Int → Int → Int → Int → ByteArray → List (S26) → Int → Int → Option (List Int × Int)
 | 0, _, _, _, _, _, _, _, _ => none
 | k + 1, x6, x7, x180000, x180001, x180002, x180003, x181000, x181001 => tree_Cover.l1 k x6 (-1) 0 x7 x180003 (x180003.length : Int) 0 x180000 x180001 x180002 x180003 x181000 x181001
def tree_Cover.l1 : Nat → List Int → Int → Int → Int → List (S26) → Int → Int → Int → Int → ByteArray → List (S26) → Int → Int → Option (List Int × Int)
 | 0, _, _, _, _, _, _, _, _, _, _, _, _, _ => none
 | k + 1, x6, x8, x9, x10, x36, x37, x38, x180000, x180001, x180002, x180003, x181000, x181001 => if x38 < x37 then (if 0 ≤ x38 then (if x38 < (x36.length : Int) then ((tree_width.f k ((rd_T26 x36 x38).f0) ((rd_T26 x36 x38).f1.f0) ((rd_T26 x36 x38).f1.f1) ((rd_T26 x36 x38).f2)).bind fun t185 => (if x10 ≤ x181000 then (if x181001 ≤ (wrap64 (x10 + t185)) then (tree_Cover.l1 k x6 x38 x10 (wrap64 (x10 + t185)) x36 x37 (wrap64 (x38 + 1)) x180000 x180001 x180002 x180003 x181000 x181001) else (tree_Cover.l1 k x6 x8 x9 (wrap64 (x10 + t185)) x36 x37 (wrap64 (x38 + 1)) x180000 x180001 x180002 x180003 x181000 x181001)) else (tree_Cover.l1 k x6 x8 x9 (wrap64 (x10 + t185)) x36 x37 (wrap64 (x38 + 1)) x180000 x180001 x180002 x180003 x181000 x181001))) else (none)) else (none)) else (if x8 < 0 then (some (x6, 0)) else (if x6.length < 17592186044416 then (if 0 ≤ x8 then (if x8 < (x180003.length : Int) then (tree_Cover.l0 k (x6 ++ [x8]) x9 ((rd_T26 x180003 x8).f0) ((rd_T26 x180003 x8).f1.f0) ((rd_T26 x180003 x8).f1.f1) ((rd_T26 x180003 x8).f2) x181000 x181001) else (none)) else (none)) else (none)))
end
def tree_Cover.f (k : Nat) (a0_0 : Int) (a0_1 : Int) (a0_2 : ByteArray) (l0_3 : List (S26)) (a1_0 : Int) (a1_1 : Int) : Option (List Int × Int) := (tree_IsFormed.f k a0_0 a0_1 a0_2 l0_3).bind fun t181 => (if t181 = true then (if a1_0 < 0 then (none) else (if a1_0 > a1_1 then (none) else ((tree_width.f k a0_0 a0_1 a0_2 l0_3).bind fun t182 => (if a1_1 > t182 then (none) else (tree_Cover.l0 k ([] : List Int) 0 a0_0 a0_1 a0_2 l0_3 a1_0 a1_1))))) else (none))
theorem tree_Cover.info : (Try.prog.info? 3).map (fun i => (i.zero, i.size, i.bytes)) = some (some (.int .i64 0), 1, 8) := by kernel_rfl
set_option maxHeartbeats 8000000 in
set_option maxRecDepth 100000 in
theorem tree_Cover.calls (k : Nat) (a0_0 : Int) (a0_1 : Int) (a0_2 : ByteArray) (A0_3 : Option Addr) (c0_3 : Nat) (l0_3 : List (S26)) (a1_0 : Int) (a1_1 : Int) (r1 : List Int) (r2 : Int) (w : World) (hr0_3 : Kd.C k26 w A0_3 l0_3.length l0_3) (hc0_3 : l0_3.length ≤ c0_3) (h : tree_Cover.f k a0_0 a0_1 a0_2 l0_3 a1_0 a1_1 = some (r1, r2)) :
  Calls Try.prog 17 #[.agg #[.int .i64 a0_0, .int .i64 a0_1, .string a0_2, .slice A0_3 l0_3.length c0_3], .agg #[.int .i64 a1_0, .int .i64 a1_1]] w fun e w' => ∃ v0_ : Value, e = .returned (.tuple #[v0_, .int .i64 r2]) ∧ Kd.R (Kd.int .i64) 3 w' w.heap.size (fun _ => True) v0_ r1 ∧ Below w.heap.size w w' := by
 have hu := Try.underlying26; have hu2 := Try.underlying28; unfold tree_Cover.f at h; obtain ⟨b, hb, h⟩ := Option.bind_eq_some_iff.mp h
 cases b with
 | false => exact absurd h (by simp)
 | true =>
 rw [if_pos rfl] at h; by_cases c1 : a1_0 < 0
 ·rw [if_pos c1] at h; cases h
 rw [if_neg c1] at h; by_cases c2 : a1_0 > a1_1
 ·rw [if_pos c2] at h; cases h
 rw [if_neg c2] at h; obtain ⟨wd, hwd, h⟩ := Option.bind_eq_some_iff.mp h; by_cases c3 : a1_1 > wd
 ·rw [if_pos c3] at h; cases h
 rw [if_neg c3] at h; have d1 : decide (a1_0 < 0) = false := decide_eq_false c1; have d2 : decide (a1_1 < a1_0) = false := decide_eq_false c2; have d3 : decide (wd < a1_1) = false := decide_eq_false c3; have hw2 : Below w.heap.size w ((w.alloc (.cells #[.int .i64 a0_0, .int .i64 a0_1, .string a0_2, .slice A0_3 l0_3.length c0_3] 26)).alloc (.cells #[.int .i64 a1_0, .int .i64 a1_1] 28)) := below_alloc (below_alloc (Below.refl _ _) _) _; have Cn := Aside0.mk (Kd.C_below hr0_3 hw2); have C0 := Aside0.mk hr0_3; have HB := Aside0.mk hw2; have H2 := Aside0.mk (show ((w.alloc (.cells #[.int .i64 a0_0, .int .i64 a0_1, .string a0_2, .slice A0_3 l0_3.length c0_3] 26)).alloc (.cells #[.int .i64 a1_0, .int .i64 a1_1] 28)).heap[w.heap.size]? = some (.cells #[.int .i64 a0_0, .int .i64 a0_1, .string a0_2, .slice A0_3 l0_3.length c0_3] 26 (0, 0)) from blk_alloc (blk_new w _) _); have H3 := Aside0.mk (show ((w.alloc (.cells #[.int .i64 a0_0, .int .i64 a0_1, .string a0_2, .slice A0_3 l0_3.length c0_3] 26)).alloc (.cells #[.int .i64 a1_0, .int .i64 a1_1] 28)).heap[w.heap.size + 1]? = some (.cells #[.int .i64 a1_0, .int .i64 a1_1] 28 (0, 0)) by simpa using blk_new (w.alloc (.cells #[.int .i64 a0_0, .int .i64 a0_1, .string a0_2, .slice A0_3 l0_3.length c0_3] 26)) (.cells #[.int .i64 a1_0, .int .i64 a1_1] 28)); have E1 := Aside0.mk hb; have E2 := Aside0.mk hwd; have HH := Aside0.mk h; clear hr0_3 hw2 h hb hwd c1 c2 c3; go_enter Try.func17, Try.ntmps17; go_wp2_with fail; refine (tree_IsFormed.calls k a0_0 a0_1 a0_2 A0_3 c0_3 l0_3 true _ Cn.out hc0_3 E1.out).mono ?_; rintro e w3 ⟨rfl, hb⟩; replace Cn := Aside0.mk (Kd.C_below Cn.out hb); replace H2 := Aside0.mk (blk_below H2.out hb); replace H3 := Aside0.mk (blk_below H3.out hb); replace HB := Aside0.mk (Cl.bstep HB.out hb); clear hb; obtain ⟨yH2_0, yH2_1, yH2_2, yH2_3⟩ := Cl.four H2.out; obtain ⟨yH3_0, yH3_1⟩ := Cl.two H3.out; go_wp2_with fail
 have hS : (fun w' : World => w'.cell? ⟨w.heap.size, 0, none⟩ = some (.int .i64 a0_0) ∧ w'.cell? ⟨w.heap.size, 1, none⟩ = some (.int .i64 a0_1) ∧ w'.cell? ⟨w.heap.size, 2, none⟩ = some (.string a0_2) ∧ w'.cell? ⟨w.heap.size, 3, none⟩ = some (.slice A0_3 l0_3.length c0_3) ∧ w'.cell? ⟨w.heap.size + 1, 0, none⟩ = some (.int .i64 a1_0) ∧ w'.cell? ⟨w.heap.size + 1, 1, none⟩ = some (.int .i64 a1_1)) w3.drew := ⟨yH2_0, yH2_1, yH2_2, yH2_3, yH3_0, yH3_1⟩
 have hd := below_drew1 (Below.refl w3.heap.size w3); replace Cn := Aside0.mk (Kd.C_below Cn.out hd); replace H2 := Aside0.mk (blk_below H2.out hd); replace H3 := Aside0.mk (blk_below H3.out hd); replace HB := Aside0.mk (Cl.bstep HB.out hd); clear hd; refine start_ (n := 17) (S := fun w' => w'.cell? ⟨w.heap.size, 0, none⟩ = some (.int .i64 a0_0) ∧ w'.cell? ⟨w.heap.size, 1, none⟩ = some (.int .i64 a0_1) ∧ w'.cell? ⟨w.heap.size, 2, none⟩ = some (.string a0_2) ∧ w'.cell? ⟨w.heap.size, 3, none⟩ = some (.slice A0_3 l0_3.length c0_3) ∧ w'.cell? ⟨w.heap.size + 1, 0, none⟩ = some (.int .i64 a1_0) ∧ w'.cell? ⟨w.heap.size + 1, 1, none⟩ = some (.int .i64 a1_1)) (ds := []) #[false, false, false, false, false, false, false, false, false, false, false, false, false, false, false, false, false] (by kernel_rfl) rfl rfl hS (fun hHeld => ?_); refine take_ (i := 0) (N := some 17) (v := ?_) (a' := ?_) #[true, false, false, false, false, false, false, false, false, false, false, false, false, false, false, false, false] rfl rfl (by kernel_rfl) (fun _ _ _ h => h) (Or.inl ⟨by rfl, ?_⟩) hHeld ?_ ?_; rotate_left
 ·rintro w' ⟨s0, s1, s2, s3, s4, s5⟩; go_simp; with_reducible rfl
 rotate_left
 ·simp only [Act.put, List.setIfInBounds_toArray, List.set_cons_zero, List.set_cons_succ, i64_w, i32_w]; rfl
 refine take_ (i := 1) (N := some 18) (v := ?_) (a' := ?_) #[true, true, false, false, false, false, false, false, false, false, false, false, false, false, false, false, false] rfl rfl (by kernel_rfl) (fun _ _ _ h => h) (Or.inl ⟨by rfl, ?_⟩) hHeld ?_ ?_; rotate_left
 ·rintro w' ⟨s0, s1, s2, s3, s4, s5⟩; go_simp; with_reducible rfl
 rotate_left
 ·simp only [Act.put, List.setIfInBounds_toArray, List.set_cons_zero, List.set_cons_succ, i64_w, i32_w]; rfl
 refine take_ (i := 2) (N := some 19) (v := ?_) (a' := ?_) #[true, true, true, false, false, false, false, false, false, false, false, false, false, false, false, false, false] rfl rfl (by kernel_rfl) (fun _ _ _ h => h) (Or.inl ⟨by rfl, ?_⟩) hHeld ?_ ?_; rotate_left
 ·rintro w' ⟨s0, s1, s2, s3, s4, s5⟩; go_simp; with_reducible rfl
 rotate_left
 ·simp only [Act.put, List.setIfInBounds_toArray, List.set_cons_zero, List.set_cons_succ, i64_w, i32_w]; rfl
 refine take_ (i := 3) (N := some 20) (v := ?_) (a' := ?_) #[true, true, true, true, false, false, false, false, false, false, false, false, false, false, false, false, false] rfl rfl (by kernel_rfl) (fun _ _ _ h => h) (Or.inl ⟨by rfl, ?_⟩) hHeld ?_ ?_; rotate_left
 ·rintro w' ⟨s0, s1, s2, s3, s4, s5⟩; go_simp; with_reducible rfl
 rotate_left
 ·simp only [Act.put, List.setIfInBounds_toArray, List.set_cons_zero, List.set_cons_succ, i64_w, i32_w]; rfl
 refine take_ (i := 4) (N := some 21) (v := ?_) (a' := ?_) #[true, true, true, true, true, false, false, false, false, false, false, false, false, false, false, false, false] rfl rfl (by kernel_rfl) (fun _ _ _ h => h) (Or.inl ⟨by rfl, ?_⟩) hHeld ?_ ?_; rotate_left
 ·rintro w' ⟨s0, s1, s2, s3, s4, s5⟩; go_simp; with_reducible rfl
 rotate_left
 ·simp only [Act.put, List.setIfInBounds_toArray, List.set_cons_zero, List.set_cons_succ, i64_w, i32_w]; rfl
 refine take_ (i := 5) (N := some 22) (v := ?_) (a' := ?_) #[true, true, true, true, true, true, false, false, false, false, false, false, false, false, false, false, false] rfl rfl (by kernel_rfl) (fun _ _ _ h => h) (Or.inl ⟨by rfl, ?_⟩) hHeld ?_ ?_; rotate_left
 ·rintro w' ⟨s0, s1, s2, s3, s4, s5⟩; go_simp; with_reducible rfl
 rotate_left
 ·simp only [Act.put, List.setIfInBounds_toArray, List.set_cons_zero, List.set_cons_succ, i64_w, i32_w]; rfl
 refine take_ (i := 6) (N := some 23) (v := ?_) (a' := ?_) #[true, true, true, true, true, true, true, false, false, false, false, false, false, false, false, false, false] rfl rfl (by kernel_rfl) (fun _ _ _ h => h) (Or.inl ⟨by rfl, ?_⟩) hHeld ?_ ?_; rotate_left
 ·rintro w' ⟨s0, s1, s2, s3, s4, s5⟩; go_simp; with_reducible rfl
 rotate_left
 ·simp only [Act.put, List.setIfInBounds_toArray, List.set_cons_zero, List.set_cons_succ, i64_w, i32_w]; rfl
 refine take_ (i := 7) (N := some 24) (v := ?_) (a' := ?_) #[true, true, true, true, true, true, true, true, false, false, false, false, false, false, false, false, false] rfl rfl (by kernel_rfl) (fun _ _ _ h => h) (Or.inl ⟨by rfl, ?_⟩) hHeld ?_ ?_; rotate_left
 ·rintro w' ⟨s0, s1, s2, s3, s4, s5⟩; go_simp; with_reducible rfl
 rotate_left
 ·simp only [Act.put, List.setIfInBounds_toArray, List.set_cons_zero, List.set_cons_succ, i64_w, i32_w]; rfl
 refine take_ (i := 8) (N := some 25) (v := ?_) (a' := ?_) #[true, true, true, true, true, true, true, true, true, false, false, false, false, false, false, false, false] rfl rfl (by kernel_rfl) (fun _ _ _ h => h) (Or.inl ⟨by rfl, ?_⟩) hHeld ?_ ?_; rotate_left
 ·rintro w' ⟨s0, s1, s2, s3, s4, s5⟩; go_simp; with_reducible rfl
 rotate_left
 ·simp only [Act.put, List.setIfInBounds_toArray, List.set_cons_zero, List.set_cons_succ, i64_w, i32_w]; rfl
 refine take_ (i := 9) (N := some 26) (v := ?_) (a' := ?_) #[true, true, true, true, true, true, true, true, true, true, false, false, false, false, false, false, false] rfl rfl (by kernel_rfl) (fun _ _ _ h => h) (Or.inl ⟨by rfl, ?_⟩) hHeld ?_ ?_; rotate_left
 ·rintro w' ⟨s0, s1, s2, s3, s4, s5⟩; go_simp; with_reducible rfl
 rotate_left
 ·simp only [Act.put, List.setIfInBounds_toArray, List.set_cons_zero, List.set_cons_succ, i64_w, i32_w]; rfl
 refine take_ (i := 10) (N := some 27) (v := ?_) (a' := ?_) #[true, true, true, true, true, true, true, true, true, true, true, false, false, false, false, false, false] rfl rfl (by kernel_rfl) (fun _ _ _ h => h) (Or.inl ⟨by rfl, ?_⟩) hHeld ?_ ?_; rotate_left
 ·rintro w' ⟨s0, s1, s2, s3, s4, s5⟩; go_simp; with_reducible rfl
 rotate_left
 ·simp only [Act.put, List.setIfInBounds_toArray, List.set_cons_zero, List.set_cons_succ, i64_w, i32_w]; rfl
 refine take_ (i := 11) (N := some 28) (v := ?_) (a' := ?_) #[true, true, true, true, true, true, true, true, true, true, true, true, false, false, false, false, false] rfl rfl (by kernel_rfl) (fun _ _ _ h => h) (Or.inl ⟨by rfl, ?_⟩) hHeld ?_ ?_; rotate_left
 ·rintro w' ⟨s0, s1, s2, s3, s4, s5⟩; go_simp; with_reducible rfl
 rotate_left
 ·simp only [Act.put, List.setIfInBounds_toArray, List.set_cons_zero, List.set_cons_succ, i64_w, i32_w]; rfl
 refine take_ (i := 12) (N := some 29) (v := ?_) (a' := ?_) #[true, true, true, true, true, true, true, true, true, true, true, true, true, false, false, false, false] rfl rfl (by kernel_rfl) (fun _ _ _ h => h) (Or.inl ⟨by rfl, ?_⟩) hHeld ?_ ?_; rotate_left
 ·rintro w' ⟨s0, s1, s2, s3, s4, s5⟩; go_simp; with_reducible rfl
 rotate_left
 ·simp only [Act.put, List.setIfInBounds_toArray, List.set_cons_zero, List.set_cons_succ, i64_w, i32_w]; rfl
 refine take_ (i := 13) (N := some 30) (v := ?_) (a' := ?_) #[true, true, true, true, true, true, true, true, true, true, true, true, true, true, false, false, false] rfl rfl (by kernel_rfl) (fun _ _ _ h => h) (Or.inl ⟨by rfl, ?_⟩) hHeld ?_ ?_; rotate_left
 ·rintro w' ⟨s0, s1, s2, s3, s4, s5⟩; go_simp; with_reducible rfl
 rotate_left
 ·simp only [Act.put, List.setIfInBounds_toArray, List.set_cons_zero, List.set_cons_succ, i64_w, i32_w]; rfl
 refine one_ (i := 14) (N := some 31) #[true, true, true, true, true, true, true, true, true, true, true, true, true, true, true, false, false] rfl rfl (by kernel_rfl) (by decide) (fun K hK => ?_); go_simp; go_at_call 55; refine (tree_width.calls k a0_0 a0_1 a0_2 A0_3 c0_3 l0_3 wd _ Cn.out hc0_3 E2.out).mono ?_; rintro e w4 ⟨rfl, hb⟩
 have hk4 : (fun w' : World => w'.cell? ⟨w.heap.size, 0, none⟩ = some (.int .i64 a0_0) ∧ w'.cell? ⟨w.heap.size, 1, none⟩ = some (.int .i64 a0_1) ∧ w'.cell? ⟨w.heap.size, 2, none⟩ = some (.string a0_2) ∧ w'.cell? ⟨w.heap.size, 3, none⟩ = some (.slice A0_3 l0_3.length c0_3) ∧ w'.cell? ⟨w.heap.size + 1, 0, none⟩ = some (.int .i64 a1_0) ∧ w'.cell? ⟨w.heap.size + 1, 1, none⟩ = some (.int .i64 a1_1)) w4 := ⟨pw_cell_below hb hHeld.1, pw_cell_below hb hHeld.2.1, pw_cell_below hb hHeld.2.2.1, pw_cell_below hb hHeld.2.2.2.1, pw_cell_below hb hHeld.2.2.2.2.1, pw_cell_below hb hHeld.2.2.2.2.2⟩
 replace Cn := Aside0.mk (Kd.C_below Cn.out hb); replace H2 := Aside0.mk (blk_below H2.out hb); replace H3 := Aside0.mk (blk_below H3.out hb); replace HB := Aside0.mk (Cl.bstep HB.out hb); clear hb; refine hK.out _ _ hk4 (fun hHeld => ?_); clear hK K; refine take_ (i := 15) (N := some 32) (v := ?_) (a' := ?_) #[true, true, true, true, true, true, true, true, true, true, true, true, true, true, true, true, false] rfl rfl (by kernel_rfl) (fun _ _ _ h => h) (Or.inl ⟨by rfl, ?_⟩) hHeld ?_ ?_; rotate_left
 ·rintro w' ⟨s0, s1, s2, s3, s4, s5⟩; go_simp; with_reducible rfl
 rotate_left
 ·simp only [Act.put, List.setIfInBounds_toArray, List.set_cons_zero, List.set_cons_succ, i64_w, i32_w]; rfl
 refine take_ (i := 16) (N := some 33) (v := ?_) (a' := ?_) #[true, true, true, true, true, true, true, true, true, true, true, true, true, true, true, true, true] rfl rfl (by kernel_rfl) (fun _ _ _ h => h) (Or.inl ⟨by rfl, ?_⟩) hHeld ?_ ?_; rotate_left
 ·rintro w' ⟨s0, s1, s2, s3, s4, s5⟩; go_simp; with_reducible rfl
 rotate_left
 ·simp only [Act.put, List.setIfInBounds_toArray, List.set_cons_zero, List.set_cons_succ, i64_w, i32_w]; rfl
 refine done_ (by kernel_rfl) ?_; clear yH2_0 yH2_1 yH2_2 yH2_3 yH3_0 yH3_1 hS hHeld hk4 E1 E2 d1 d2 d3; go_wp2_with fail
 go_loopg [6, 7] k (fun kq v6 v7 w' => ∃ (n : S26) (A : Option Addr) (cc : Nat) (acc : List Int) (fr : Int), v7 = .int .i64 fr ∧ Aside0 (tree_Cover.l0 kq acc fr n.f0 n.f1.f0 n.f1.f1 n.f2 a1_0 a1_1 = some (r1, r2)) ∧ Aside0 (Kd.C k26 w A n.f2.length n.f2 ∧ n.f2.length ≤ cc) ∧ Aside0 (w'.heap[w.heap.size]? = some (.cells #[.int .i64 n.f0, .int .i64 n.f1.f0, .string n.f1.f1, .slice A n.f2.length cc] 26 (0, 0))) ∧ Aside0 (w'.heap[w.heap.size + 1]? = some (.cells #[.int .i64 a1_0, .int .i64 a1_1] 28 (0, 0))) ∧ Aside0 (Kd.R (Kd.int .i64) 3 w' w.heap.size (fun _ => True) v6 acc) ∧ Aside0 (Below w.heap.size w w'))
 case atStart => exact ⟨⟨a0_0, ⟨a0_1, a0_2⟩, l0_3⟩, A0_3, c0_3, [], 0, rfl, HH, ⟨C0.out, hc0_3⟩, H2, H3, ⟨Kd.R_nil _ _ _ _ _⟩, HB⟩
 case round =>
  clear HH C0 Cn H2 H3 HB; obtain ⟨n, A, cc, acc, fr, rfl, HA, HC, HG, HS, HO, HB⟩ := hrel
  cases gk with
  | zero => exact absurd HA.out (by simp [tree_Cover.l0])
  | succ kq =>
  have H := HA.out; rw [tree_Cover.l0] at H; have HL := Aside0.mk H; clear HA H; obtain ⟨z0, z1, z2, z3⟩ := Cl.four HG.out; obtain ⟨s0, s1⟩ := Cl.two HS.out; have hmax : n.f2.length ≤ 9223372036854775807 := HC.out.1.2.1; go_wp2_with fail
  go_loopg [8, 9, 10, 38] kq (fun kq2 v8 v9 v10 v38 w' => ∃ (nx bg at_ : Int) (i : Nat), v8 = .int .i64 nx ∧ v9 = .int .i64 bg ∧ v10 = .int .i64 at_ ∧ v38 = .int .i64 (i : Int) ∧ Aside0 (kq2 ≤ kq) ∧ Aside0 (tree_Cover.l1 kq2 acc nx bg at_ n.f2 (n.f2.length : Int) (i : Int) n.f0 n.f1.f0 n.f1.f1 n.f2 a1_0 a1_1 = some (r1, r2)) ∧ Aside0 (w'.heap[w.heap.size]? = some (.cells #[.int .i64 n.f0, .int .i64 n.f1.f0, .string n.f1.f1, .slice A n.f2.length cc] 26 (0, 0))) ∧ Aside0 (w'.heap[w.heap.size + 1]? = some (.cells #[.int .i64 a1_0, .int .i64 a1_1] 28 (0, 0))) ∧ Aside0 (Kd.R (Kd.int .i64) 3 w' w.heap.size (fun _ => True) u6 acc) ∧ Aside0 (Below w.heap.size w w'))
  case atStart => exact ⟨-1, 0, fr, 0, rfl, rfl, rfl, rfl, ⟨Nat.le_refl _⟩, HL, HG, HS, HO, HB⟩
  case round =>
   clear HL HG HS HO HB z0 z1 z2 z3 s0 s1; obtain ⟨nx, bg, at_, i, rfl, rfl, rfl, rfl, HK, HL, HG, HS, HO, HB⟩ := hrel
   cases gk with
   | zero => exact absurd HL.out (by simp [tree_Cover.l1])
   | succ kq2 =>
   have H := HL.out; simp only [tree_Cover.l1] at H; clear HL; obtain ⟨s0, s1⟩ := Cl.two HS.out; by_cases hlt : (i : Int) < (n.f2.length : Int)
   ·rw [if_pos hlt] at H; rw [if_pos (by omega), if_pos hlt] at H; obtain ⟨t, ht, H⟩ := Option.bind_eq_some_iff.mp H; have hd1 : decide ((i : Int) < (n.f2.length : Int)) = true := decide_eq_true hlt
    have hin : i < n.f2.length := (by omega)
    have hrd : rd_T26 n.f2 (i : Int) = n.f2[i] := (by simp [rd_T26, hin])
    obtain ⟨ad, A3, c3, e, hx0, hx1, hx2, hx3, hl3, hC3⟩ := at_T26 HC.out.1 (i : Int) (by omega) hlt; rw [hrd] at hx0 hx1 hx2 hx3 hl3 hC3 ht; rw [Int.toNat_natCast] at hx0 hx1 hx2 hx3; subst e; replace hx0 := zh HB hx0; replace hx1 := zh HB hx1; replace hx2 := zh HB hx2; replace hx3 := zh HB hx3; clear hrd; generalize n.f2[i] = y at *; have E2 := Aside0.mk ht; have HC3 := Aside0.mk (And.intro hC3 hl3); have hal := below_alloc (Below.refl wr.heap.size wr) (.cells #[.int .i64 y.f0, .int .i64 y.f1.f0, .string y.f1.f1, .slice A3 y.f2.length c3] 26); have HB1 := Aside0.mk (Cl.bstep HB.out hal); have HG1 := Aside0.mk (blk_below HG.out hal); have HS1 := Aside0.mk (blk_below HS.out hal); have HO1 := Aside0.mk (Kd.R_below HO.out hal); have HY1 := Aside0.mk (blk_new wr (.cells #[.int .i64 y.f0, .int .i64 y.f1.f0, .string y.f1.f1, .slice A3 y.f2.length c3] 26)); clear ht hC3 hl3 hal HO HG HS
    obtain ⟨atN, hatN⟩ : ∃ a : Int, wrap64 (at_ + t) = a := ⟨_, rfl⟩
    rw [hatN] at H
    have ei : wrap64 ((i : Int) + 1) = ((i + 1 : Nat) : Int) := (by (unfold wrap64; omega))
    rw [ei] at H; clear ei; by_cases c1 : at_ ≤ a1_0
    ·rw [if_pos c1] at H; have d1 : decide (at_ ≤ a1_0) = true := decide_eq_true c1; by_cases c2 : a1_1 ≤ atN
     ·rw [if_pos c2] at H; have d2 : decide (a1_1 ≤ atN) = true := decide_eq_true c2; have HL2 := Aside0.mk H; clear H
      go_wp2_with (go_at_call 55; refine (tree_width.calls kq2 _ _ _ _ _ _ _ _ (Kd.C_below HC3.out.1 HB1.out) HC3.out.2 E2.out).mono ?_; rintro e w3 ⟨rfl, hb⟩; have HB3 := Aside0.mk (Cl.bstep HB1.out hb); have HG3 := Aside0.mk (blk_below HG1.out hb); have HS3 := Aside0.mk (blk_below HS1.out hb); have HO3 := Aside0.mk (Kd.R_below HO1.out hb); obtain ⟨q0, q1⟩ := Cl.two HS3.out; clear hb)
      go_roundg kq2
      case measure => omega
      case rel => exact ⟨i, at_, atN, i + 1, by go_num, by go_num, by go_num, by go_num, ⟨by have := HK.out; omega⟩, HL2, HG3, HS3, HO3, HB3⟩
     ·rw [if_neg c2] at H; have d2 : decide (a1_1 ≤ atN) = false := decide_eq_false c2; have HL2 := Aside0.mk H; clear H
      go_wp2_with (go_at_call 55; refine (tree_width.calls kq2 _ _ _ _ _ _ _ _ (Kd.C_below HC3.out.1 HB1.out) HC3.out.2 E2.out).mono ?_; rintro e w3 ⟨rfl, hb⟩; have HB3 := Aside0.mk (Cl.bstep HB1.out hb); have HG3 := Aside0.mk (blk_below HG1.out hb); have HS3 := Aside0.mk (blk_below HS1.out hb); have HO3 := Aside0.mk (Kd.R_below HO1.out hb); obtain ⟨q0, q1⟩ := Cl.two HS3.out; clear hb)
      go_roundg kq2
      case measure => omega
      case rel => exact ⟨nx, bg, atN, i + 1, by go_num, by go_num, by go_num, by go_num, ⟨by have := HK.out; omega⟩, HL2, HG3, HS3, HO3, HB3⟩
    ·rw [if_neg c1] at H; have d1 : decide (at_ ≤ a1_0) = false := decide_eq_false c1; have HL2 := Aside0.mk H; clear H
     go_wp2_with (go_at_call 55; refine (tree_width.calls kq2 _ _ _ _ _ _ _ _ (Kd.C_below HC3.out.1 HB1.out) HC3.out.2 E2.out).mono ?_; rintro e w3 ⟨rfl, hb⟩; have HB3 := Aside0.mk (Cl.bstep HB1.out hb); have HG3 := Aside0.mk (blk_below HG1.out hb); have HS3 := Aside0.mk (blk_below HS1.out hb); have HO3 := Aside0.mk (Kd.R_below HO1.out hb); obtain ⟨q0, q1⟩ := Cl.two HS3.out; clear hb)
     go_roundg kq2
     case measure => omega
     case rel => exact ⟨nx, bg, atN, i + 1, by go_num, by go_num, by go_num, by go_num, ⟨by have := HK.out; omega⟩, HL2, HG3, HS3, HO3, HB3⟩
   ·rw [if_neg hlt] at H; have hd1 : decide ((i : Int) < (n.f2.length : Int)) = false := decide_eq_false hlt; by_cases c4 : nx < 0
    ·rw [if_pos c4] at H; simp only [Option.some.injEq, Prod.mk.injEq] at H; obtain ⟨rfl, rfl⟩ := H; have d4 : decide (nx < 0) = true := decide_eq_true c4; go_wp2
     (try rw [Exit.noGoto_ret])
     go_ret2
     exact ⟨_, rfl, HO.out, HB.out⟩
    ·rw [if_neg c4] at H; obtain ⟨hlen, H⟩ := Ut.ite_some H; obtain ⟨hn0, H⟩ := Ut.ite_some H; obtain ⟨hn1, H⟩ := Ut.ite_some H; have HL2 := Aside0.mk H; have d4 : decide (nx < 0) = false := decide_eq_false c4; clear H; obtain ⟨j, rfl⟩ := Int.eq_ofNat_of_zero_le hn0
     have hin : j < n.f2.length := (by omega)
     have hrd : rd_T26 n.f2 (j : Int) = n.f2[j] := (by simp [rd_T26, hin])
     obtain ⟨ad, A3, c3, e, hx0, hx1, hx2, hx3, hl3, hC3⟩ := at_T26 HC.out.1 (j : Int) (by omega) hn1; rw [hrd] at hx0 hx1 hx2 hx3 hl3 hC3; rw [Int.toNat_natCast] at hx0 hx1 hx2 hx3; subst e; have h2 := HL2.out; rw [hrd] at h2; have HL3 := Aside0.mk h2; clear h2 HL2 hrd; generalize n.f2[j] = y at *; have HC3 := Aside0.mk (And.intro hC3 hl3); have HX := Aside0.mk (And.intro hx0 (And.intro hx1 (And.intro hx2 hx3))); clear hC3 hl3 hx0 hx1 hx2 hx3; obtain ⟨z0, z1, z2, z3⟩ := Cl.four HG.out
     go_wp2_with (first | (at_builtin; refine Kd.R_append (Kd.int .i64) (w0 := w) w.heap.size rfl (.tmp 66) (.tmp 68) 30 3 (.int .i64 0) 8 rfl Try.underlying30 tree_Cover.info rfl (by decide) (by omega) u6 acc (j : Int) [.int .i64 (j : Int)] (fun _ => True) (fun _ => False) rfl rfl rfl (fun _ hk => hk.elim) (fun _ _ => trivial) HO.out HB.out (below_size HB.out) (by omega) ?_; intro v8 w4 ho hb hg hat; have HB4 := Aside0.mk hb; have HO4 := Aside0.mk ho; have HG4 := Aside0.mk (blk_grown HG.out hg (Kd.R_ne HO.out HG.out (by decide))); have HS4 := Aside0.mk (blk_grown HS.out hg (Kd.R_ne HO.out HS.out (by decide))); clear ho hb hg hat; obtain ⟨z0, z1, z2, z3⟩ := Cl.four HG4.out; obtain ⟨f0, f1, f2, f3⟩ := Cl.ffour HG4.out; obtain ⟨x0, x1, x2, x3⟩ := HX.out; replace x0 := (HB4.out.cell (World.block_lt_of_cell? w _ x0)).trans x0; replace x1 := (HB4.out.cell (World.block_lt_of_cell? w _ x1)).trans x1; replace x2 := (HB4.out.cell (World.block_lt_of_cell? w _ x2)).trans x2; replace x3 := (HB4.out.cell (World.block_lt_of_cell? w _ x3)).trans x3))
     go_roundg kq2
     case measure => have := HK.out; omega
     case rel => exact ⟨y, A3, c3, acc ++ [(j : Int)], bg, by go_num, HL3, HC3, ⟨by refine blk_put (cs := #[.int .i64 y.f0, .int .i64 y.f1.f0, .string y.f1.f1, .slice (some ad) n.f2.length cc]) ?_ 3 _ rfl; refine blk_put (cs := #[.int .i64 y.f0, .int .i64 y.f1.f0, .string n.f1.f1, .slice (some ad) n.f2.length cc]) ?_ 2 _ rfl; refine blk_put (cs := #[.int .i64 y.f0, .int .i64 n.f1.f0, .string n.f1.f1, .slice (some ad) n.f2.length cc]) ?_ 1 _ rfl; refine blk_put (cs := #[.int .i64 n.f0, .int .i64 n.f1.f0, .string n.f1.f1, .slice (some ad) n.f2.length cc]) ?_ 0 _ rfl; exact HG4.out⟩, ⟨(Below.heap_setCell _ _ _ _ (by simp)).trans ((Below.heap_setCell _ _ _ _ (by simp)).trans ((Below.heap_setCell _ _ _ _ (by simp)).trans ((Below.heap_setCell _ _ _ _ (by simp)).trans (HS4.out))))⟩, ⟨by refine Kd.R_set (Kd.R_set (Kd.R_set (Kd.R_set HO4.out HG4.out ?ht 0 _) (blk_put HG4.out 0 _ rfl) ?ht 1 _) (blk_put (blk_put HG4.out 0 _ rfl) 1 _ rfl) ?ht 2 _) (blk_put (blk_put (blk_put HG4.out 0 _ rfl) 1 _ rfl) 2 _ rfl) ?ht 3 _; intro q hq e; subst e; revert hq; decide⟩, ⟨by repeat (first | exact HB4.out | refine below_set ?_ (Nat.le_refl _))⟩⟩

end Go.Proofs.Ytnafnieocpkkhaa.P

set_option linter.unusedVariables false
set_option linter.unusedSimpArgs false
namespace Go.Proofs.Ytnafnieocpkkhaa.P
open Go.RowKit Go.Proofs.YtnafnieocpkkhaaW.PrintWords Go.Proofs.YtnafnieocpkkhaaW.PrintLast Go.Proofs.YtnafnieocpkkhaaW.PrintMore
def isF (n : Nd) : Prop := ∃ m, fo m n = true
theorem isF.of_fmd {n : Nd} (h : fmd n = true) : isF n := ⟨1001, (Bool.and_eq_true_iff.1 h).1⟩
theorem isF.leaf {n : Nd} (h : isF n) (h1 : n.f0 = 1) : n.f2 = [] ∧ 0 < n.f1.f1.size := by
 obtain ⟨m, h⟩ := h
 cases m with
 | zero => cases h
 | succ m =>
  rw [fo, if_pos h1, Bool.and_eq_true, decide_eq_true_eq] at h; exact ⟨List.eq_nil_of_length_eq_zero h.1, (of_decide_eq_true h.2).1⟩
theorem isF.node {n : Nd} (h : isF n) (h1 : ¬ n.f0 = 1) : n.f1.f1.size = 0 ∧ n.f1.f0 = 0 := by
 obtain ⟨m, h⟩ := h
 cases m with
 | zero => cases h
 | succ m =>
  rw [fo, if_neg h1, Bool.and_eq_true, Bool.and_eq_true, Bool.and_eq_true, Bool.and_eq_true, beq_iff_eq, beq_iff_eq, Lib.toList_data] at h; have := congrArg List.length h.1.1.2.2; rw [isize] at this; exact ⟨this, h.1.1.2.1⟩
theorem isF.kid {n x : Nd} (h : isF n) (hx : x ∈ n.f2) : isF x := by
 obtain ⟨m, h⟩ := h
 cases m with
 | zero => cases h
 | succ m =>
  rw [fo] at h
  split at h
  ·rw [Bool.and_eq_true, decide_eq_true_eq] at h; rw [List.eq_nil_of_length_eq_zero h.1] at hx
   cases hx
  ·rw [Bool.and_eq_true] at h; exact ⟨m, List.all_eq_true.1 h.2 x hx⟩
theorem isF.at {p : List Int} {n x : Nd} {o : Nat} (h : isF n) (hx : atp p n = some (x, o)) : isF x := by
 obtain ⟨m, h⟩ := h; exact atp_fo h hx
theorem isF.wd {n : Nd} (h : isF n) (h1 : ¬ n.f0 = 1) : P.wd n = wds n.f2 := by
 rw [wd_wds, (h.node h1).1, Nat.zero_add]
theorem isF.lv : ∀ {n : Nd}, isF n → (0 < lv n ↔ 0 < P.wd n) := by
 suffices H : ∀ n, isF n → (0 < P.lv n ↔ 0 < P.wd n) from fun {n} => H n
 refine Nd.ind ?_; intro n ih h; rw [lv_eq]; by_cases h1 : n.f0 = 1
 ·rw [if_pos h1, wd_wds]; have := (h.leaf h1).2
  omega
 ·rw [if_neg h1, h.wd h1]; unfold wds
  have : ∀ l : List Nd, (∀ x ∈ l, x ∈ n.f2) → (0 < (l.map P.lv).sum ↔ 0 < (l.map P.wd).sum) := by
   intro l
   induction l with
   | nil => intro _; exact Iff.rfl
   | cons y r ihl =>
    intro hl; have e1 := ih y (hl y List.mem_cons_self) (h.kid (hl y List.mem_cons_self)); have e2 := ihl (fun z hz => hl z (List.mem_cons_of_mem _ hz)); simp only [List.map_cons, List.sum_cons]
    omega
  exact this n.f2 (fun _ h => h)
def holds (F T a : Nat) (l : List Nd) (j : Nat) (x : Nd) : Prop := l[j]? = some x ∧ a + wds (l.take j) ≤ F ∧ T ≤ a + wds (l.take j) + wd x
end Go.Proofs.Ytnafnieocpkkhaa.P

namespace Go.Proofs.Ytnafnieocpkkhaa.P
open Go.RowKit Go.Proofs.YtnafnieocpkkhaaW.PrintWords Go.Proofs.YtnafnieocpkkhaaW.PrintLast Go.Proofs.YtnafnieocpkkhaaW.PrintMore
attribute [local go_sem] max2_int min2_int max_two min_two max_three min_three max_four min_four
set_option linter.unusedVariables false
set_option linter.unusedSimpArgs false

def tree_put.go : List Int → S26 → S26 → Option (S26)
 | [], _, by_ => some by_
 | i :: p, n, by_ => if n.f2.length < 1000000 then (if 0 ≤ i then (n.f2[i.toNat]?).bind fun x => (tree_put.go p x by_).bind fun y => some ⟨n.f0, n.f1, n.f2.set i.toNat y⟩ else none) else none
/-- A row whose elements' cells are told by S alone, once for all. -/
def tree_put.stat (S : S26 → List Value → Prop) : Kd (S26) where
 sz := 4
 E := []
 K := fun _ x cs => S x cs ∧ cs.length = 4 ∧ ∀ u ∈ cs, u.oneCell' = true
 M := fun _ _ _ x cs => S x cs ∧ cs.length = 4 ∧ ∀ u ∈ cs, u.oneCell' = true
 K_len := fun h => h.2.1
 K_one := fun h => h.2.2
 K_below := fun _ h => h
 K_of_M := fun h => h
 M_mono := fun _ h => h
 M_bound := fun h => h
 M_move := fun _ h => h
 M_lower := fun _ h => h
theorem tree_put.stat_imp {w : World} {base e : Nat} {ok : Nat → Prop} {v : Value} {l : List (S26)} {S S' : S26 → List Value → Prop} (hS : ∀ x cs, S x cs → S' x cs) (h : Kd.R (tree_put.stat S) e w base ok v l) : Kd.R (tree_put.stat S') e w base ok v l := by
 obtain ⟨h0, inner, ho, hl, hr⟩ := h; exact ⟨h0, inner, ho, hl, fun j p hj => ⟨hS _ _ (hr j p hj).1, (hr j p hj).2⟩⟩
theorem tree_put.stat_F {W : World} {base g n c : Nat} {okf : Nat → Prop} {l : List (S26)} {S : S26 → List Value → Prop} (h : Kd.R (tree_put.stat S) 26 W base (fun _ => True) (.slice (some ⟨g, 0, none⟩) n c) l) (hS : ∀ x cs, S x cs → Kd.FK k26 W okf x cs) (hg : okf g) :
  Kd.F k26 W okf (some ⟨g, 0, none⟩) l.length l := by
 intro W' hW
 have hlt : g < W.heap.size := by
  obtain ⟨inner, ho⟩ := Kd.R_own h; exact own_lt ho g (by simp [Value.ownBlock])
 have h2 : Kd.R (tree_put.stat S) 26 W' base (fun _ => True) (.slice (some ⟨g, 0, none⟩) n c) l := by
  obtain ⟨h0, inner, ho, hr⟩ := h
  exact ⟨h0, inner, own_move ho (fun k hk => by
   have : g = k := (by simpa [Value.ownBlock] using hk)
   subst this
   exact hW g hg hlt), hr⟩
 obtain ⟨A, c', e, hc, hC⟩ := Kd.R_reads h2; injection e with e1 _ _; subst e1; obtain ⟨q1, q2, q3⟩ := hC; refine ⟨q1, q2, fun hp => ?_⟩; obtain ⟨ad, e, hh⟩ := q3 hp; refine ⟨ad, e, fun j p hj => ?_⟩; obtain ⟨cs, h1, h3, h4⟩ := hh j p hj; exact ⟨cs, h1, (hS _ _ h3.1) W' hW, h4⟩
set_option maxHeartbeats 8000000 in
set_option maxRecDepth 100000 in
/-- slices.Clone of Nodes: the row is new, the Nodes' cells are as they were. -/
theorem tree_put.row (w : World) (S : S26 → List Value → Prop) (l : List (S26)) (A : Option Addr) (c : Nat) (hl : l.length < 1000000) (hC : ReadsRow (fun x cs => S x cs ∧ cs.length = 4 ∧ ∀ u ∈ cs, u.oneCell' = true) 4 w A l.length l) (hc : l.length ≤ c) :
  Calls Try.prog 103 #[.slice A l.length c] w fun e w' => ∃ v', e = .returned v' ∧ Kd.R (tree_put.stat S) 26 w' w.heap.size (fun _ => True) v' l ∧ Below w.heap.size w w' := by
 have hu := Try.underlying24
 have hq := fun w n => Lib.run_eql_slice_nil (P := Try.prog) w 24 26 A n c 0 0 hu
 have HC := Aside0.mk hC; clear hC
 cases A with
 | none =>
  have h0 : l = [] := by
   rcases Nat.eq_zero_or_pos l.length with h0 | h0
   ·exact List.length_eq_zero_iff.mp h0
   ·obtain ⟨ad, e, _⟩ := HC.out.2.2 h0
    cases e
  subst h0; go_enter Try.func103, Try.ntmps103; go_wp2; go_ret; exact ⟨_, rfl, Kd.R_nil _ _ _ _ _, Below.refl _ _⟩
 | some ad =>
  have hE := Aside0.mk (tree_Clone.lit (tree_put.stat S) (W := w) (base := w.heap.size) (e := 26) (Nat.le_refl _)); have hA := Aside0.mk (below_alloc (Below.refl w.heap.size w) (.cells #[] 26))
  have hRR : Aside0 (ReadsRow (fun x cs => S x cs ∧ cs.length = 4 ∧ ∀ u ∈ cs, u.oneCell' = true) 4 (w.alloc (.cells #[] 26)) (some ad) l.length l) := ⟨ReadsRow.imp_ HC.out hA.out (fun _ _ h => h)⟩
  clear HC; go_enter Try.func103, Try.ntmps103
  go_wp2_with (first | (at_builtin; refine Kd.R_append_rows (tree_put.stat S) (w0 := w) w.heap.size rfl (.tmp 5) (.tmp 6) 24 26 (.agg #[.int .i64 0, .int .i64 0, .string ⟨#[]⟩, .slice none 0 0]) 56 rfl Try.underlying24 tree_Clone.infoNode rfl (show 0 < 4 by decide) (by omega) (.slice (some ⟨w.heap.size, 0, none⟩) 0 0) [] l (some ad) l.length c (fun _ => True) (fun _ => False) rfl rfl hE.out hRR.out (fun x cs h => h) (fun _ hk => hk.elim) (fun _ _ => trivial) hA.out hA.out.size (show (([] : List (S26)).length + l.length) * 56 ≤ 140737488355328 by rw [List.length_nil]; omega) ?_; intro v1 w1 hr hb hg hat; have HR := Aside0.mk hr; have HB2 := Aside0.mk hb; clear hr hb hg hat))
  go_ret; exact ⟨_, rfl, by simpa using HR.out, HB2.out⟩
def tree_put.Holds (p : List Int) : Prop := ∀ (n b r : S26) (A Ap Ab : Option Addr) (c cp cb : Nat) (Pn Pb : Nat → Prop) (w : World), tree_put.go p n b = some r → n.f2.length ≤ c → Kd.F k26 w Pn A n.f2.length n.f2 → p.length ≤ cp → Kd.C (Kd.int .i64) w Ap p.length p → b.f2.length ≤ cb → Kd.F k26 w Pb Ab b.f2.length b.f2 →
 Calls Try.prog 77 #[.agg #[.int .i64 n.f0, .int .i64 n.f1.f0, .string n.f1.f1, .slice A n.f2.length c], .slice Ap p.length cp, .agg #[.int .i64 b.f0, .int .i64 b.f1.f0, .string b.f1.f1, .slice Ab b.f2.length cb]] w fun e w' => ∃ A' c', e = .returned (.agg #[.int .i64 r.f0, .int .i64 r.f1.f0, .string r.f1.f1, .slice A' r.f2.length c']) ∧ r.f2.length ≤ c' ∧ Kd.F k26 w' (fun k => (Pn k ∨ Pb k) ∨ w.heap.size ≤ k) A' r.f2.length r.f2 ∧ Below w.heap.size w w'
set_option maxHeartbeats 8000000 in
set_option maxRecDepth 100000 in
theorem tree_put.walk_ok : ∀ p, tree_put.Holds p := by
 have hu := Try.underlying26; intro p
 induction p with
 | nil =>
  intro n b r A Ap Ab c cp cb Pn Pb w h hc hC hcp hCp hcb hCb; rw [tree_put.go, Option.some.injEq] at h; subst h; have HC := Aside0.mk hCb; clear hC hCp hCb; go_enter Try.func77, Try.ntmps77; go_wp2_with fail; refine bodyPost_ret (results_cell_row rfl _ _ (w.heap.size + 1 + 1) 26 #[.int .i64 b.f0, .int .i64 b.f1.f0, .string b.f1.f1, .slice Ab b.f2.length cb] (0, 0) _ rfl (by simpa using blk_new ((w.alloc (.cells #[.int .i64 n.f0, .int .i64 n.f1.f0, .string n.f1.f1, .slice A n.f2.length c] 26)).alloc (.cells #[.int .i64 b.f0, .int .i64 b.f1.f0, .string b.f1.f1, .slice Ab b.f2.length cb] 26)) (.cells #[.int .i64 b.f0, .int .i64 b.f1.f0, .string b.f1.f1, .slice Ab b.f2.length cb] 26)) Try.underlying26 rfl (by kernel_rfl)) rfl ?_; refine ⟨Ab, cb, rfl, hcb, ?_, below_alloc (below_alloc (below_alloc (Below.refl _ _) _) _) _⟩; exact Kd.F_mono (Kd.F_below HC.out (below_alloc (below_alloc (below_alloc (Below.refl _ _) _) _) _)) (fun k hk => .inl (.inr hk))
 | cons i p ih =>
  intro n b r A Ap Ab c cp cb Pn Pb w h hc hC hcp hCp hcb hCb; rw [tree_put.go] at h; obtain ⟨hlen, h⟩ := Ut.ite_some h; obtain ⟨h0, h⟩ := Ut.ite_some h; obtain ⟨x, hx, h⟩ := Option.bind_eq_some_iff.mp h; obtain ⟨y, hy, h⟩ := Option.bind_eq_some_iff.mp h; injection h with h; subst h; obtain ⟨iN, rfl⟩ := Int.eq_ofNat_of_zero_le h0; rw [Int.toNat_natCast] at hx; obtain ⟨pad, e, hp0⟩ := Kd.at_int hCp 0 (by omega) (by rw [List.length_cons]; omega); subst e; have hp0 : w.cell? pad = some (.int .i64 (iN : Int)) := hp0; have hCp2 := Kd.C_drop (m := 1) (c := cp) hCp (by simp) (by omega)
  have hil : iN < n.f2.length := by
   rcases Nat.lt_or_ge iN n.f2.length with h | h
   ·exact h
   ·rw [List.getElem?_eq_none h] at hx; cases hx
  have HW3 := Aside0.mk (show Below w.heap.size w (((w.alloc (.cells #[.int .i64 n.f0, .int .i64 n.f1.f0, .string n.f1.f1, .slice A n.f2.length c] 26)).alloc (.cells #[.int .i64 b.f0, .int .i64 b.f1.f0, .string b.f1.f1, .slice Ab b.f2.length cb] 26)).alloc (.cells #[.int .i64 0, .int .i64 0, .string ⟨#[]⟩, .slice none 0 0] 26)) from below_alloc (below_alloc (below_alloc (Below.refl _ _) _) _) _); have HS3 := Aside0.mk (show (((w.alloc (.cells #[.int .i64 n.f0, .int .i64 n.f1.f0, .string n.f1.f1, .slice A n.f2.length c] 26)).alloc (.cells #[.int .i64 b.f0, .int .i64 b.f1.f0, .string b.f1.f1, .slice Ab b.f2.length cb] 26)).alloc (.cells #[.int .i64 0, .int .i64 0, .string ⟨#[]⟩, .slice none 0 0] 26)).heap.size = w.heap.size + 3 by simp); have H1 := Aside0.mk (show (((w.alloc (.cells #[.int .i64 n.f0, .int .i64 n.f1.f0, .string n.f1.f1, .slice A n.f2.length c] 26)).alloc (.cells #[.int .i64 b.f0, .int .i64 b.f1.f0, .string b.f1.f1, .slice Ab b.f2.length cb] 26)).alloc (.cells #[.int .i64 0, .int .i64 0, .string ⟨#[]⟩, .slice none 0 0] 26)).heap[w.heap.size]? = some (.cells #[.int .i64 n.f0, .int .i64 n.f1.f0, .string n.f1.f1, .slice A n.f2.length c] 26) from blk_alloc (blk_alloc (blk_new w _) _) _); have H2 := Aside0.mk (show (((w.alloc (.cells #[.int .i64 n.f0, .int .i64 n.f1.f0, .string n.f1.f1, .slice A n.f2.length c] 26)).alloc (.cells #[.int .i64 b.f0, .int .i64 b.f1.f0, .string b.f1.f1, .slice Ab b.f2.length cb] 26)).alloc (.cells #[.int .i64 0, .int .i64 0, .string ⟨#[]⟩, .slice none 0 0] 26)).heap[w.heap.size + 1]? = some (.cells #[.int .i64 b.f0, .int .i64 b.f1.f0, .string b.f1.f1, .slice Ab b.f2.length cb] 26) from blk_alloc (by simpa using blk_new (w.alloc (.cells #[.int .i64 n.f0, .int .i64 n.f1.f0, .string n.f1.f1, .slice A n.f2.length c] 26)) (.cells #[.int .i64 b.f0, .int .i64 b.f1.f0, .string b.f1.f1, .slice Ab b.f2.length cb] 26)) _); have H3 := Aside0.mk (show (((w.alloc (.cells #[.int .i64 n.f0, .int .i64 n.f1.f0, .string n.f1.f1, .slice A n.f2.length c] 26)).alloc (.cells #[.int .i64 b.f0, .int .i64 b.f1.f0, .string b.f1.f1, .slice Ab b.f2.length cb] 26)).alloc (.cells #[.int .i64 0, .int .i64 0, .string ⟨#[]⟩, .slice none 0 0] 26)).heap[w.heap.size + 1 + 1]? = some (.cells #[.int .i64 0, .int .i64 0, .string ⟨#[]⟩, .slice none 0 0] 26) by simpa using blk_new ((w.alloc (.cells #[.int .i64 n.f0, .int .i64 n.f1.f0, .string n.f1.f1, .slice A n.f2.length c] 26)).alloc (.cells #[.int .i64 b.f0, .int .i64 b.f1.f0, .string b.f1.f1, .slice Ab b.f2.length cb] 26)) (.cells #[.int .i64 0, .int .i64 0, .string ⟨#[]⟩, .slice none 0 0] 26)); have ROW := Aside0.mk (tree_put.row (((w.alloc (.cells #[.int .i64 n.f0, .int .i64 n.f1.f0, .string n.f1.f1, .slice A n.f2.length c] 26)).alloc (.cells #[.int .i64 b.f0, .int .i64 b.f1.f0, .string b.f1.f1, .slice Ab b.f2.length cb] 26)).alloc (.cells #[.int .i64 0, .int .i64 0, .string ⟨#[]⟩, .slice none 0 0] 26)) (fun (z : S26) cs => Kd.FK k26 w (fun k => Pn k ∧ k < w.heap.size) z cs) n.f2 A c hlen (ReadsRow.imp_ (Kd.F_rows (Kd.F_bound hC)) HW3.out (fun z cs h => ⟨h, (k26).K_len (Kd.FK_now h), (k26).K_one (Kd.FK_now h)⟩)) hc); have IH := Aside0.mk ih; have HY := Aside0.mk hy; have HX := Aside0.mk hx; have HC := Aside0.mk hC; have HCP := Aside0.mk hCp2; have HP0 := Aside0.mk hp0; have HCB := Aside0.mk hCb
  have hne : ((p.length : Int) + 1 == 0) = false := (by simp; omega)
  have hi1 : (iN : Int) < (n.f2.length : Int) := (by omega)
  clear ih hx hy hC hCp hCp2 hp0 hCb; go_enter Try.func77, Try.ntmps77; go_wp2_with fail; refine ROW.out.mono ?_; rintro e w1 ⟨v1, rfl, hR1, hb1⟩; obtain ⟨g, cap, hv, hbg, hgl, cg, hcg⟩ := Kd.R_form hR1 (by omega); have HCG := Aside0.mk hcg; subst hv; have HR1 := Aside0.mk hR1; have HB1 := Aside0.mk hb1; have k1 := blk_below H1.out hb1; have k2 := blk_below H2.out hb1; have k3 := blk_below H3.out hb1; have HK := Aside0.mk (And.intro k1 (And.intro k2 k3)); have s0 : w1.cell? ⟨w.heap.size, 3, none⟩ = some (.slice A n.f2.length c) := Lib.cell_of_heap k1 3; have s1 := Lib.frozen_of_heap k1 3; clear hR1 hb1 ROW k1 k2 k3 hcg; go_wp2_with fail; obtain ⟨xc, hxl, hM, hcc⟩ := Kd.R_get HR1.out n (iN : Int) (by omega) (by omega); rw [Int.toNat_natCast, List.getD_eq_getElem?_getD, HX.out] at hM; rw [Int.toNat_natCast] at hcc; have hK : Kd.FK k26 w (fun k => Pn k ∧ k < w.heap.size) x xc := hM.1; obtain ⟨A3, c3, rfl, hl3, hC3⟩ := k26_openF hK
  have hgs : w.heap.size + 3 ≤ g := (by have := HS3.out; omega)
  have hng : g ≠ w.heap.size := (by omega)
  have had : ∀ j, (⟨g, 0, none⟩ : Addr).add (iN * 4 + j) = ⟨g, iN * 4 + j, none⟩ := fun j => by unfold Addr.add; simp; try omega
  have x0 : w1.cell? ⟨g, iN * 4 + 0, none⟩ = some (.int .i64 x.f0) := (by have hq := hcc 0 _ rfl; rw [show (tree_put.stat (fun (z : S26) cs => Kd.FK k26 w (fun k => Pn k ∧ k < w.heap.size) z cs)).sz = 4 from rfl, had] at hq; exact hq)
  have x1 : w1.cell? ⟨g, iN * 4 + 1, none⟩ = some (.int .i64 x.f1.f0) := (by have hq := hcc 1 _ rfl; rw [show (tree_put.stat (fun (z : S26) cs => Kd.FK k26 w (fun k => Pn k ∧ k < w.heap.size) z cs)).sz = 4 from rfl, had] at hq; exact hq)
  have x2 : w1.cell? ⟨g, iN * 4 + 2, none⟩ = some (.string x.f1.f1) := (by have hq := hcc 2 _ rfl; rw [show (tree_put.stat (fun (z : S26) cs => Kd.FK k26 w (fun k => Pn k ∧ k < w.heap.size) z cs)).sz = 4 from rfl, had] at hq; exact hq)
  have x3 : w1.cell? ⟨g, iN * 4 + 3, none⟩ = some (.slice A3 x.f2.length c3) := (by have hq := hcc 3 _ rfl; rw [show (tree_put.stat (fun (z : S26) cs => Kd.FK k26 w (fun k => Pn k ∧ k < w.heap.size) z cs)).sz = 4 from rfl, had] at hq; exact hq)
  have HW1 := Aside0.mk (HW3.out.trans (HB1.out.mono HW3.out.size)); obtain ⟨k1, k2, k3⟩ := HK.out; have hplt : pad.block < w.heap.size := World.block_lt_of_cell? w _ HP0.out; have p0 := (HW1.out.cell hplt).trans HP0.out
  have far : ∀ (a : Addr) (u : Value), a.block ≠ w.heap.size → w1.cell? a = some u → (w1.setCell ⟨w.heap.size, 3, none⟩ (.slice (some ⟨g, 0, none⟩) n.f2.length cap)).cell? a = some u := fun a u ha h => (World.cell?_setCell_far w1 _ a _ (fun e => ha e.symm)).trans h
  have hS4 : Aside0 ((fun w' : World => w'.cell? ⟨w.heap.size, 3, none⟩ = some (.slice (some ⟨g, 0, none⟩) n.f2.length cap) ∧ w'.cell? pad = some (.int .i64 (iN : Int)) ∧ w'.cell? ⟨w.heap.size + 1, 0, none⟩ = some (.int .i64 b.f0) ∧ w'.cell? ⟨w.heap.size + 1, 1, none⟩ = some (.int .i64 b.f1.f0) ∧ w'.cell? ⟨w.heap.size + 1, 2, none⟩ = some (.string b.f1.f1) ∧ w'.cell? ⟨w.heap.size + 1, 3, none⟩ = some (.slice Ab b.f2.length cb) ∧ w'.cell? ⟨g, iN * 4, none⟩ = some (.int .i64 x.f0) ∧ w'.cell? ⟨g, iN * 4 + 1, none⟩ = some (.int .i64 x.f1.f0) ∧ w'.cell? ⟨g, iN * 4 + 2, none⟩ = some (.string x.f1.f1) ∧ w'.cell? ⟨g, iN * 4 + 3, none⟩ = some (.slice A3 x.f2.length c3)) (w1.setCell ⟨w.heap.size, 3, none⟩ (.slice (some ⟨g, 0, none⟩) n.f2.length cap))) := ⟨by
   refine ⟨by rw [Lib.cell_of_heap (blk_put (cs' := #[.int .i64 n.f0, .int .i64 n.f1.f0, .string n.f1.f1, .slice (some ⟨g, 0, none⟩) n.f2.length cap]) k1 3 (.slice (some ⟨g, 0, none⟩) n.f2.length cap) rfl) 3]; rfl, far _ _ (by omega) p0, far _ _ (by simp) (Lib.cell_of_heap k2 0), far _ _ (by simp) (Lib.cell_of_heap k2 1), far _ _ (by simp) (Lib.cell_of_heap k2 2), far _ _ (by simp) (Lib.cell_of_heap k2 3), far _ _ hng x0, far _ _ hng x1, far _ _ hng x2, far _ _ hng x3⟩⟩
  have HR4 : Aside0 (Kd.R (tree_put.stat (fun (z : S26) cs => Kd.FK k26 w (fun k => Pn k ∧ k < w.heap.size) z cs)) 26 (w1.setCell ⟨w.heap.size, 3, none⟩ (.slice (some ⟨g, 0, none⟩) n.f2.length cap)) (w.heap.size + 3) (fun _ => True) (.slice (some ⟨g, 0, none⟩) n.f2.length cap) n.f2) := ⟨Kd.R_mono (Kd.R_far (p := ⟨w.heap.size, 3, none⟩) (Kd.R_mono (Kd.R_bound (Kd.R_lower HR1.out (show w.heap.size + 3 ≤ _ by rw [HS3.out]; exact Nat.le_refl _))) (fun k hk => hk.2.1)) (fun k (hk : w.heap.size + 3 ≤ k) (e : k = w.heap.size) => by omega) _) (fun _ _ => trivial)⟩
  have HW4 : Aside0 (Below w.heap.size w (w1.setCell ⟨w.heap.size, 3, none⟩ (.slice (some ⟨g, 0, none⟩) n.f2.length cap))) := ⟨below_set (HW3.out.trans (HB1.out.mono HW3.out.size)) (Nat.le_refl _)⟩
  have HK4 : Aside0 ((w1.setCell ⟨w.heap.size, 3, none⟩ (.slice (some ⟨g, 0, none⟩) n.f2.length cap)).heap[w.heap.size]? = some (.cells #[.int .i64 n.f0, .int .i64 n.f1.f0, .string n.f1.f1, .slice (some ⟨g, 0, none⟩) n.f2.length cap] 26 (0, 0)) ∧ (w1.setCell ⟨w.heap.size, 3, none⟩ (.slice (some ⟨g, 0, none⟩) n.f2.length cap)).heap[w.heap.size + 1 + 1]? = some (.cells #[.int .i64 0, .int .i64 0, .string ⟨#[]⟩, .slice none 0 0] 26 (0, 0))) := ⟨blk_put k1 3 _ rfl, (Below.heap_setCell w1 ⟨w.heap.size, 3, none⟩ _ (w.heap.size + 1 + 1) (by simp; omega)).trans k3⟩
  have HG4 : Aside0 ((w1.setCell ⟨w.heap.size, 3, none⟩ (.slice (some ⟨g, 0, none⟩) n.f2.length cap)).heap[g]? = some (.cells cg 26 (0, 0))) := ⟨(Below.heap_setCell w1 ⟨w.heap.size, 3, none⟩ _ g (by simpa using hng)).trans HCG.out⟩
  have HZ4 : Aside0 (w.heap.size + 3 ≤ (w1.setCell ⟨w.heap.size, 3, none⟩ (.slice (some ⟨g, 0, none⟩) n.f2.length cap)).heap.size) := ⟨by have h1 := HB1.out.size; have h2 := HS3.out; rw [show (w1.setCell ⟨w.heap.size, 3, none⟩ (.slice (some ⟨g, 0, none⟩) n.f2.length cap)).heap.size = w1.heap.size by simp [World.setCell]]; omega⟩
  have HL4 : Aside0 (g < (w1.setCell ⟨w.heap.size, 3, none⟩ (.slice (some ⟨g, 0, none⟩) n.f2.length cap)).heap.size) := ⟨by simpa [World.setCell] using hgl⟩
  clear x0 x1 x2 x3 s0 s1 p0 k1 k2 k3 far hM hcc hK had HR1 HB1 HW1 HK H1 H2 H3 HX HCG; generalize w1.setCell ⟨w.heap.size, 3, none⟩ (.slice (some ⟨g, 0, none⟩) n.f2.length cap) = W4 at hS4 HR4 HW4 HK4 HG4 HL4 HZ4 ⊢
  have hcases : (cp = 1) = True ∨ (cp = 1) = False := (by by_cases h : cp = 1 <;> simp [h])
  rcases hcases with hc1 | hc1
  all_goals
   have hCP2 := HCP.out; simp only [hc1, if_true, if_false] at hCP2; have HCP2 := Aside0.mk hCP2; clear hCP2 HCP; have hw4 : Below w.heap.size w W4.drew := below_drew1 HW4.out; have HCall := Aside0.mk (IH.out x b y A3 _ Ab c3 (cp - 1) cb (fun k => Pn k ∧ k < w.heap.size) (fun k => Pb k ∧ k < w.heap.size) W4.drew HY.out hl3 (Kd.F_below hC3 hw4) (by simp at hcp; omega) (Kd.C_below HCP2.out hw4) hcb (Kd.F_below (Kd.F_bound HCB.out) hw4)); obtain ⟨q0, q1, q2, q3, q4, q5, x0, x1, x2, x3⟩ := hS4.out
   have hSd : (fun w' : World => w'.cell? ⟨w.heap.size, 3, none⟩ = some (.slice (some ⟨g, 0, none⟩) n.f2.length cap) ∧ w'.cell? pad = some (.int .i64 (iN : Int)) ∧ w'.cell? ⟨w.heap.size + 1, 0, none⟩ = some (.int .i64 b.f0) ∧ w'.cell? ⟨w.heap.size + 1, 1, none⟩ = some (.int .i64 b.f1.f0) ∧ w'.cell? ⟨w.heap.size + 1, 2, none⟩ = some (.string b.f1.f1) ∧ w'.cell? ⟨w.heap.size + 1, 3, none⟩ = some (.slice Ab b.f2.length cb)) W4.drew := ⟨q0, q1, q2, q3, q4, q5⟩
   have x0 : W4.drew.cell? ⟨g, iN * 4, none⟩ = some (.int .i64 x.f0) := x0; have x1 : W4.drew.cell? ⟨g, iN * 4 + 1, none⟩ = some (.int .i64 x.f1.f0) := x1; have x2 : W4.drew.cell? ⟨g, iN * 4 + 2, none⟩ = some (.string x.f1.f1) := x2; have x3 : W4.drew.cell? ⟨g, iN * 4 + 3, none⟩ = some (.slice A3 x.f2.length c3) := x3; have HXX := Aside0.mk (And.intro x0 (And.intro x1 (And.intro x2 x3)))
   have f4 : Aside0 (∀ (W : World) (a : Addr) (u v0 v1 v2 v3 : Value), a.block ≠ g → W.cell? a = some u → ((((W.setCell ⟨g, iN * 4, none⟩ v0).setCell ⟨g, iN * 4 + 1, none⟩ v1).setCell ⟨g, iN * 4 + 2, none⟩ v2).setCell ⟨g, iN * 4 + 3, none⟩ v3).cell? a = some u) := ⟨fun W a u v0 v1 v2 v3 ha h => (World.cell?_setCell_far _ _ a _ (fun e => ha e.symm)).trans ((World.cell?_setCell_far _ _ a _ (fun e => ha e.symm)).trans ((World.cell?_setCell_far _ _ a _ (fun e => ha e.symm)).trans ((World.cell?_setCell_far _ _ a _ (fun e => ha e.symm)).trans h)))⟩
   have hd0 : w.heap.size ≠ g := (by omega)
   have hd1 : w.heap.size + 1 ≠ g := (by omega)
   have hd2 : pad.block ≠ g := (by omega)
   dsimp only at hSd
   have hs1 : (1 : Int) ≤ (p.length : Int) + 1 := (by omega)
   have hs2 : (0 : Int) < (p.length : Int) + 1 := (by omega)
   have hs3 : (0 : Int) ≤ (iN : Int) := (by omega)
   clear hC3 hw4 q0 q1 q2 q3 q4 q5 hS4 hplt; refine start_ (n := 18) (S := (fun w' : World => w'.cell? ⟨w.heap.size, 3, none⟩ = some (.slice (some ⟨g, 0, none⟩) n.f2.length cap) ∧ w'.cell? pad = some (.int .i64 (iN : Int)) ∧ w'.cell? ⟨w.heap.size + 1, 0, none⟩ = some (.int .i64 b.f0) ∧ w'.cell? ⟨w.heap.size + 1, 1, none⟩ = some (.int .i64 b.f1.f0) ∧ w'.cell? ⟨w.heap.size + 1, 2, none⟩ = some (.string b.f1.f1) ∧ w'.cell? ⟨w.heap.size + 1, 3, none⟩ = some (.slice Ab b.f2.length cb))) (ds := [17]) #[false, false, false, false, false, false, false, false, false, false, false, false, false, false, false, false, false, false] (by kernel_rfl) rfl rfl hSd (fun hHeld => ?_); refine take_ (i := 0) (N := some 15) (v := ?_) (a' := ?_) #[true, false, false, false, false, false, false, false, false, false, false, false, false, false, false, false, false, false] rfl rfl (by kernel_rfl) (fun _ _ _ h => h) (Or.inl ⟨by rfl, ?_⟩) hHeld ?_ ?_; rotate_left
   ·rintro w' ⟨s0, s1, s2, s3, s4, s5⟩; go_simp; with_reducible rfl
   rotate_left
   ·simp only [Act.put, List.setIfInBounds_toArray, List.set_cons_zero, List.set_cons_succ, i64_w, i32_w]; rfl
   refine take_ (i := 1) (N := some 16) (v := ?_) (a' := ?_) #[true, true, false, false, false, false, false, false, false, false, false, false, false, false, false, false, false, false] rfl rfl (by kernel_rfl) (fun _ _ _ h => h) (Or.inl ⟨by rfl, ?_⟩) hHeld ?_ ?_; rotate_left
   ·rintro w' ⟨s0, s1, s2, s3, s4, s5⟩; go_simp; with_reducible rfl
   rotate_left
   ·simp only [Act.put, List.setIfInBounds_toArray, List.set_cons_zero, List.set_cons_succ, i64_w, i32_w]; rfl
   refine take_ (i := 2) (N := some 17) (v := ?_) (a' := ?_) #[true, true, true, false, false, false, false, false, false, false, false, false, false, false, false, false, false, false] rfl rfl (by kernel_rfl) (fun _ _ _ h => h) (Or.inl ⟨by rfl, ?_⟩) hHeld ?_ ?_; rotate_left
   ·rintro w' ⟨s0, s1, s2, s3, s4, s5⟩; go_simp; with_reducible rfl
   rotate_left
   ·simp only [Act.put, List.setIfInBounds_toArray, List.set_cons_zero, List.set_cons_succ, i64_w, i32_w]; rfl
   refine take_ (i := 3) (N := some 18) (v := ?_) (a' := ?_) #[true, true, true, true, false, false, false, false, false, false, false, false, false, false, false, false, false, false] rfl rfl (by kernel_rfl) (fun _ _ _ h => h) (Or.inl ⟨by rfl, ?_⟩) hHeld ?_ ?_; rotate_left
   ·rintro w' ⟨s0, s1, s2, s3, s4, s5⟩; go_simp; with_reducible rfl
   rotate_left
   ·simp only [Act.put, List.setIfInBounds_toArray, List.set_cons_zero, List.set_cons_succ, i64_w, i32_w]; rfl
   refine take_ (i := 4) (N := some 19) (v := ?_) (a' := ?_) #[true, true, true, true, true, false, false, false, false, false, false, false, false, false, false, false, false, false] rfl rfl (by kernel_rfl) (fun _ _ _ h => h) (Or.inl ⟨by rfl, ?_⟩) hHeld ?_ ?_; rotate_left
   ·rintro w' ⟨s0, s1, s2, s3, s4, s5⟩; go_simp; with_reducible rfl
   rotate_left
   ·simp only [Act.put, List.setIfInBounds_toArray, List.set_cons_zero, List.set_cons_succ, i64_w, i32_w]; rfl
   refine take_ (i := 5) (N := some 20) (v := ?_) (a' := ?_) #[true, true, true, true, true, true, false, false, false, false, false, false, false, false, false, false, false, false] rfl rfl (by kernel_rfl) (fun _ _ _ h => h) (Or.inl ⟨by rfl, ?_⟩) hHeld ?_ ?_; rotate_left
   ·rintro w' ⟨s0, s1, s2, s3, s4, s5⟩; go_simp; with_reducible rfl
   rotate_left
   ·simp only [Act.put, List.setIfInBounds_toArray, List.set_cons_zero, List.set_cons_succ, i64_w, i32_w]; rfl
   refine take_ (i := 6) (N := some 21) (v := ?_) (a' := ?_) #[true, true, true, true, true, true, true, false, false, false, false, false, false, false, false, false, false, false] rfl rfl (by kernel_rfl) (fun _ _ _ h => h) (Or.inl ⟨by rfl, ?_⟩) hHeld ?_ ?_; rotate_left
   ·rintro w' ⟨s0, s1, s2, s3, s4, s5⟩; go_simp; with_reducible rfl
   rotate_left
   ·simp only [Act.put, List.setIfInBounds_toArray, List.set_cons_zero, List.set_cons_succ, i64_w, i32_w]; rfl
   refine take_ (i := 7) (N := some 22) (v := ?_) (a' := ?_) #[true, true, true, true, true, true, true, true, false, false, false, false, false, false, false, false, false, false] rfl rfl (by kernel_rfl) (fun _ _ _ h => h) (Or.inl ⟨by rfl, ?_⟩) hHeld ?_ ?_; rotate_left
   ·rintro w' ⟨s0, s1, s2, s3, s4, s5⟩; go_simp; with_reducible rfl
   rotate_left
   ·simp only [Act.put, List.setIfInBounds_toArray, List.set_cons_zero, List.set_cons_succ, i64_w, i32_w]; rfl
   refine take_ (i := 8) (N := some 23) (v := ?_) (a' := ?_) #[true, true, true, true, true, true, true, true, true, false, false, false, false, false, false, false, false, false] rfl rfl (by kernel_rfl) (fun _ _ _ h => h) (Or.inl ⟨by rfl, ?_⟩) hHeld ?_ ?_; rotate_left
   ·rintro w' ⟨s0, s1, s2, s3, s4, s5⟩; go_simp; with_reducible rfl
   rotate_left
   ·simp only [Act.put, List.setIfInBounds_toArray, List.set_cons_zero, List.set_cons_succ, i64_w, i32_w]; rfl
   refine take_ (i := 9) (N := some 24) (v := ?_) (a' := ?_) #[true, true, true, true, true, true, true, true, true, true, false, false, false, false, false, false, false, false] rfl rfl (by kernel_rfl) (fun _ _ _ h => h) (Or.inl ⟨by rfl, ?_⟩) hHeld ?_ ?_; rotate_left
   ·rintro w' ⟨s0, s1, s2, s3, s4, s5⟩; go_simp; with_reducible rfl
   rotate_left
   ·simp only [Act.put, List.setIfInBounds_toArray, List.set_cons_zero, List.set_cons_succ, i64_w, i32_w]; rfl
   refine take_ (i := 10) (N := some 25) (v := ?_) (a' := ?_) #[true, true, true, true, true, true, true, true, true, true, true, false, false, false, false, false, false, false] rfl rfl (by kernel_rfl) (fun _ _ _ h => h) (Or.inl ⟨by rfl, ?_⟩) hHeld ?_ ?_; rotate_left
   ·rintro w' ⟨s0, s1, s2, s3, s4, s5⟩; go_simp; with_reducible rfl
   rotate_left
   ·simp only [Act.put, List.setIfInBounds_toArray, List.set_cons_zero, List.set_cons_succ, i64_w, i32_w]; rfl
   refine take_ (i := 12) (N := some 27) (v := ?_) (a' := ?_) #[true, true, true, true, true, true, true, true, true, true, true, false, true, false, false, false, false, false] rfl rfl (by kernel_rfl) (fun _ _ _ h => h) (Or.inl ⟨by rfl, ?_⟩) hHeld ?_ ?_; rotate_left
   ·rintro w' ⟨s0, s1, s2, s3, s4, s5⟩; go_simp; with_reducible rfl
   rotate_left
   ·simp only [Act.put, List.setIfInBounds_toArray, List.set_cons_zero, List.set_cons_succ, i64_w, i32_w]; rfl
   refine take_ (i := 13) (N := some 28) (v := ?_) (a' := ?_) #[true, true, true, true, true, true, true, true, true, true, true, false, true, true, false, false, false, false] rfl rfl (by kernel_rfl) (fun _ _ _ h => h) (Or.inl ⟨by rfl, ?_⟩) hHeld ?_ ?_; rotate_left
   ·rintro w' ⟨s0, s1, s2, s3, s4, s5⟩; go_simp; with_reducible rfl
   rotate_left
   ·simp only [Act.put, List.setIfInBounds_toArray, List.set_cons_zero, List.set_cons_succ, i64_w, i32_w]; rfl
   refine take_ (i := 14) (N := some 29) (v := ?_) (a' := ?_) #[true, true, true, true, true, true, true, true, true, true, true, false, true, true, true, false, false, false] rfl rfl (by kernel_rfl) (fun _ _ _ h => h) (Or.inl ⟨by rfl, ?_⟩) hHeld ?_ ?_; rotate_left
   ·rintro w' ⟨s0, s1, s2, s3, s4, s5⟩; go_simp; with_reducible rfl
   rotate_left
   ·simp only [Act.put, List.setIfInBounds_toArray, List.set_cons_zero, List.set_cons_succ, i64_w, i32_w]; rfl
   refine one_ (i := 11) (N := some 26) #[true, true, true, true, true, true, true, true, true, true, true, true, true, true, true, false, false, false] rfl rfl (by kernel_rfl) (by decide) (fun K hK => ?_); go_simp; refine hK.out _ _ hHeld (fun hHeld => ?_); clear hK K; refine one_ (i := 15) (N := some 30) #[true, true, true, true, true, true, true, true, true, true, true, true, true, true, true, true, false, false] rfl rfl (by kernel_rfl) (by decide) (fun K hK => ?_); go_simp; go_at_call 77; refine HCall.out.mono ?_; rintro e w5 ⟨A5, c5, rfl, hc5, hF5, hb5⟩
   have hS5 : Aside0 ((fun w' : World => w'.cell? ⟨w.heap.size, 3, none⟩ = some (.slice (some ⟨g, 0, none⟩) n.f2.length cap) ∧ w'.cell? pad = some (.int .i64 (iN : Int)) ∧ w'.cell? ⟨w.heap.size + 1, 0, none⟩ = some (.int .i64 b.f0) ∧ w'.cell? ⟨w.heap.size + 1, 1, none⟩ = some (.int .i64 b.f1.f0) ∧ w'.cell? ⟨w.heap.size + 1, 2, none⟩ = some (.string b.f1.f1) ∧ w'.cell? ⟨w.heap.size + 1, 3, none⟩ = some (.slice Ab b.f2.length cb)) w5) := ⟨by (obtain ⟨q0, q1, q2, q3, q4, q5⟩ := hSd; exact ⟨pw_cell_below hb5 q0, pw_cell_below hb5 q1, pw_cell_below hb5 q2, pw_cell_below hb5 q3, pw_cell_below hb5 q4, pw_cell_below hb5 q5⟩)⟩
   have y0 := pw_cell_below hb5 HXX.out.1; have y1 := pw_cell_below hb5 HXX.out.2.1; have y2 := pw_cell_below hb5 HXX.out.2.2.1; have y3 := pw_cell_below hb5 HXX.out.2.2.2; have g5 : w5.heap[g]? = some (.cells cg 26 (0, 0)) := blk_below (blk_drew HG4.out) hb5; have r0 := Lib.frozen_of_heap g5 (iN * 4); have r1 := Lib.frozen_of_heap g5 (iN * 4 + 1); have r2 := Lib.frozen_of_heap g5 (iN * 4 + 2); have r3 := Lib.frozen_of_heap g5 (iN * 4 + 3); have HF5 := Aside0.mk hF5; have HB5 := Aside0.mk hb5; have HG5 := Aside0.mk g5; clear hF5 hb5 g5; refine hK.out _ _ hS5.out (fun hHeld => ?_); clear hK K; refine take_ (i := 16) (N := some 31) (v := ?_) (a' := ?_) #[true, true, true, true, true, true, true, true, true, true, true, true, true, true, true, true, true, false] rfl rfl (by kernel_rfl) (fun _ _ _ h => h) (Or.inl ⟨by rfl, ?_⟩) hHeld ?_ ?_; rotate_left
   ·rintro w' ⟨s0, s1, s2, s3, s4, s5⟩; go_simp; with_reducible rfl
   rotate_left
   ·simp only [Act.put, List.setIfInBounds_toArray, List.set_cons_zero, List.set_cons_succ, i64_w, i32_w]; rfl
   refine last_ (i := 17) (N := none) #[true, true, true, true, true, true, true, true, true, true, true, true, true, true, true, true, true, true] rfl rfl (by kernel_rfl) (by decide) (fun K hK => ?_); go_simp; refine hK.out _ _ ?_; clear hK K; refine done_ (by kernel_rfl) ?_; have hcap : n.f2.length ≤ cap := (Kd.R_reads' HR4.out).2.1; have hw5 : Below w.heap.size w w5 := HW4.out.trans ((below_drew1 (Below.refl _ _)).trans (HB5.out.mono (Nat.le_refl _)) |>.mono HW4.out.size); have hRs : Kd.R (tree_put.stat (fun (z : S26) cs => Kd.FK k26 w5 (fun k => k ≠ g ∧ (((Pn k ∨ Pb k) ∧ k < w.heap.size) ∨ w.heap.size + 3 ≤ k)) z cs)) 26 w5 (w.heap.size + 3) (fun _ => True) (.slice (some ⟨g, 0, none⟩) n.f2.length cap) n.f2 := Kd.R_below (tree_put.stat_imp (fun z cs hz => Kd.FK_mono (Kd.FK_below hz hw5) (fun k hk => ⟨by have := hk.2; omega, .inl ⟨.inl hk.1, hk.2⟩⟩)) (Kd.R_drew HR4.out)) HB5.out
   have hy5 : (tree_put.stat (fun (z : S26) cs => Kd.FK k26 w5 (fun k => k ≠ g ∧ (((Pn k ∨ Pb k) ∧ k < w.heap.size) ∨ w.heap.size + 3 ≤ k)) z cs)).M w5 (w.heap.size + 3) (fun k => k ≠ g) y [.int .i64 y.f0, .int .i64 y.f1.f0, .string y.f1.f1, .slice A5 y.f2.length c5] := ⟨k26_mkF w5 _ y hc5 (Kd.F_mono HF5.out (fun k hk => by
    have h1 := HL4.out; have h2 := HZ4.out
    rcases hk with hk | hk
    ·rcases hk with hk | hk
     ·exact ⟨by have := hk.2; omega, .inl ⟨.inl hk.1, hk.2⟩⟩
     ·exact ⟨by have := hk.2; omega, .inl ⟨.inr hk.1, hk.2⟩⟩
    ·have hk : W4.heap.size ≤ k := hk
     exact ⟨by omega, .inr (by omega)⟩)), rfl, tree_Clone.one4⟩
   obtain ⟨hR6, hg6⟩ := Kd.R_seg hRs (iN : Int) (by omega) (by omega) (c := [.int .i64 x.f0, .int .i64 x.f1.f0, .string x.f1.f1, .slice A3 x.f2.length c3]) (seg := [.int .i64 y.f0, .int .i64 y.f1.f0, .string y.f1.f1, .slice A5 y.f2.length c5]) (j := 0) rfl (fun j u hj => by
    match j, hj with
    | 0, hj => simp only [List.getElem?_cons_zero, Option.some.injEq] at hj; subst hj; exact y0
    | 1, hj => simp only [List.getElem?_cons_succ, List.getElem?_cons_zero, Option.some.injEq] at hj; subst hj; exact y1
    | 2, hj => simp only [List.getElem?_cons_succ, List.getElem?_cons_zero, Option.some.injEq] at hj; subst hj; exact y2
    | 3, hj => simp only [List.getElem?_cons_succ, List.getElem?_cons_zero, Option.some.injEq] at hj; subst hj; exact y3) (show 0 + 4 ≤ 4 from Nat.le_refl 4) (x' := y) hy5 (fun k hk => ⟨trivial, hk⟩)
   have e6 : w5.setCells g ((iN : Int).toNat * (tree_put.stat (fun (z : S26) cs => Kd.FK k26 w5 (fun k => k ≠ g ∧ (((Pn k ∨ Pb k) ∧ k < w.heap.size) ∨ w.heap.size + 3 ≤ k)) z cs)).sz + 0) [.int .i64 y.f0, .int .i64 y.f1.f0, .string y.f1.f1, .slice A5 y.f2.length c5] = ((((w5.setCell ⟨g, iN * 4, none⟩ (.int .i64 y.f0)).setCell ⟨g, iN * 4 + 1, none⟩ (.int .i64 y.f1.f0)).setCell ⟨g, iN * 4 + 2, none⟩ (.string y.f1.f1)).setCell ⟨g, iN * 4 + 3, none⟩ (.slice A5 y.f2.length c5)) := rfl; rw [e6] at hR6 hg6
   have f6 : ∀ k, k ≠ g → ((((w5.setCell ⟨g, iN * 4, none⟩ (.int .i64 y.f0)).setCell ⟨g, iN * 4 + 1, none⟩ (.int .i64 y.f1.f0)).setCell ⟨g, iN * 4 + 2, none⟩ (.string y.f1.f1)).setCell ⟨g, iN * 4 + 3, none⟩ (.slice A5 y.f2.length c5)).heap[k]? = w5.heap[k]? := fun k hk => (Below.heap_setCell _ _ _ k hk).trans ((Below.heap_setCell _ _ _ k hk).trans ((Below.heap_setCell _ _ _ k hk).trans (Below.heap_setCell _ _ _ k hk)))
   have hB6 : Below w.heap.size w ((((w5.setCell ⟨g, iN * 4, none⟩ (.int .i64 y.f0)).setCell ⟨g, iN * 4 + 1, none⟩ (.int .i64 y.f1.f0)).setCell ⟨g, iN * 4 + 2, none⟩ (.string y.f1.f1)).setCell ⟨g, iN * 4 + 3, none⟩ (.slice A5 y.f2.length c5)) := below_set (below_set (below_set (below_set hw5 (by omega)) (by omega)) (by omega)) (by omega); have k1 := (f6 w.heap.size hd0).trans (blk_below (blk_drew HK4.out.1) HB5.out); have k3 := (f6 (w.heap.size + 1 + 1) (by omega)).trans (blk_below (blk_drew HK4.out.2) HB5.out); have hF6 := tree_put.stat_F (okf := (fun k => ((Pn k ∨ Pb k) ∧ k < w.heap.size) ∨ w.heap.size + 3 ≤ k)) hR6 (fun z cs hz => Kd.FK_mono (Kd.FK_step hz (fun k hk _ => f6 k hk.1)) (fun k hk => hk.2)) (.inr (by omega)); rw [Int.toNat_natCast, List.length_set] at hF6; have HF6 := Aside0.mk hF6; have HB6 := Aside0.mk hB6; have HK1 := Aside0.mk k1; have HK3 := Aside0.mk k3; clear hR6 hg6 f6 hB6 hy5 hRs hF6 e6 hw5 f4 HF5 HB5 HG5 hS5 HR4 HK4 HG4 HL4 hSd HXX y0 y1 y2 y3 r0 r1 r2 r3; generalize ((((w5.setCell ⟨g, iN * 4, none⟩ (.int .i64 y.f0)).setCell ⟨g, iN * 4 + 1, none⟩ (.int .i64 y.f1.f0)).setCell ⟨g, iN * 4 + 2, none⟩ (.string y.f1.f1)).setCell ⟨g, iN * 4 + 3, none⟩ (.slice A5 y.f2.length c5)) = W6 at k1 k3 HF6 HB6 HK1 HK3 ⊢; have a0 : W6.cell? ⟨w.heap.size, 0, none⟩ = some (.int .i64 n.f0) := Lib.cell_of_heap k1 0; have b0 : W6.cell? ⟨w.heap.size + 1 + 1, 0, none⟩ = some (.int .i64 0) := Lib.cell_of_heap k3 0; have d0 := Lib.frozen_of_heap k1 0; have e0 := Lib.frozen_of_heap k3 0; have a1 : W6.cell? ⟨w.heap.size, 1, none⟩ = some (.int .i64 n.f1.f0) := Lib.cell_of_heap k1 1; have b1 : W6.cell? ⟨w.heap.size + 1 + 1, 1, none⟩ = some (.int .i64 0) := Lib.cell_of_heap k3 1; have d1 := Lib.frozen_of_heap k1 1; have e1 := Lib.frozen_of_heap k3 1; have a2 : W6.cell? ⟨w.heap.size, 2, none⟩ = some (.string n.f1.f1) := Lib.cell_of_heap k1 2; have b2 : W6.cell? ⟨w.heap.size + 1 + 1, 2, none⟩ = some (.string ⟨#[]⟩) := Lib.cell_of_heap k3 2; have d2 := Lib.frozen_of_heap k1 2; have e2 := Lib.frozen_of_heap k3 2; have a3 : W6.cell? ⟨w.heap.size, 3, none⟩ = some (.slice (some ⟨g, 0, none⟩) n.f2.length cap) := Lib.cell_of_heap k1 3; have b3 : W6.cell? ⟨w.heap.size + 1 + 1, 3, none⟩ = some (.slice none 0 0) := Lib.cell_of_heap k3 3; have d3 := Lib.frozen_of_heap k1 3; have e3 := Lib.frozen_of_heap k3 3; clear k1 k3; go_wp2_with fail; refine bodyPost_ret (results_cell_row rfl _ _ (w.heap.size + 1 + 1) 26 #[.int .i64 n.f0, .int .i64 n.f1.f0, .string n.f1.f1, .slice (some ⟨g, 0, none⟩) n.f2.length cap] (0, 0) _ rfl (by refine blk_put (cs := #[.int .i64 n.f0, .int .i64 n.f1.f0, .string n.f1.f1, .slice none 0 0]) ?_ 3 _ rfl; refine blk_put (cs := #[.int .i64 n.f0, .int .i64 n.f1.f0, .string ⟨#[]⟩, .slice none 0 0]) ?_ 2 _ rfl; refine blk_put (cs := #[.int .i64 n.f0, .int .i64 0, .string ⟨#[]⟩, .slice none 0 0]) ?_ 1 _ rfl; refine blk_put (cs := #[.int .i64 0, .int .i64 0, .string ⟨#[]⟩, .slice none 0 0]) ?_ 0 _ rfl; exact HK3.out) Try.underlying26 rfl (by kernel_rfl)) rfl ?_
   have hok : ∀ k, (((Pn k ∨ Pb k) ∧ k < w.heap.size) ∨ w.heap.size + 3 ≤ k) → k ≠ w.heap.size + 1 + 1 := fun k hk => by rcases hk with hk | hk <;> omega
   refine ⟨some ⟨g, 0, none⟩, cap, by simp, by simpa using hcap, ?_, below_set (below_set (below_set (below_set HB6.out (by omega)) (by omega)) (by omega)) (by omega)⟩; refine Kd.F_mono ?_ (fun k (hk : ((Pn k ∨ Pb k) ∧ k < w.heap.size) ∨ w.heap.size + 3 ≤ k) => hk.elim (fun h => .inl h.1) (fun h => .inr (by omega))); refine Kd.F_far (Kd.F_far (Kd.F_far (Kd.F_far ?_ hok _) hok _) hok _) hok _
   simpa using HF6.out
def tree_put.f (a0_0 : Int) (a0_1 : Int) (a0_2 : ByteArray) (l0_3 : List (S26)) (l1 : List Int) (a2_0 : Int) (a2_1 : Int) (a2_2 : ByteArray) (l2_3 : List (S26)) : Option (Int × Int × ByteArray × List (S26)) :=
 (tree_put.go l1 ⟨a0_0, ⟨a0_1, a0_2⟩, l0_3⟩ ⟨a2_0, ⟨a2_1, a2_2⟩, l2_3⟩).bind fun r => some (r.f0, r.f1.f0, r.f1.f1, r.f2)
theorem tree_put.calls (a0_0 : Int) (a0_1 : Int) (a0_2 : ByteArray) (P0_3_ : Nat → Prop) (A0_3 : Option Addr) (c0_3 : Nat) (l0_3 : List (S26)) (A1 : Option Addr) (c1 : Nat) (l1 : List Int) (a2_0 : Int) (a2_1 : Int) (a2_2 : ByteArray) (P2_3_ : Nat → Prop) (A2_3 : Option Addr) (c2_3 : Nat) (l2_3 : List (S26)) (r1 : Int) (r2 : Int) (r3 : ByteArray) (r4 : List (S26)) (w : World) (hs0_3 : Kd.V k26 26 w w.heap.size (fun k_ => P0_3_ k_) (.slice A0_3 l0_3.length c0_3) l0_3) (hr1 : Kd.C (Kd.int .i64) w A1 l1.length l1) (hc1 : l1.length ≤ c1) (hs2_3 : Kd.V k26 26 w w.heap.size (fun k_ => P2_3_ k_) (.slice A2_3 l2_3.length c2_3) l2_3) (h : tree_put.f a0_0 a0_1 a0_2 l0_3 l1 a2_0 a2_1 a2_2 l2_3 = some (r1, r2, r3, r4)) :
  Calls Try.prog 77 #[.agg #[.int .i64 a0_0, .int .i64 a0_1, .string a0_2, .slice A0_3 l0_3.length c0_3], .slice A1 l1.length c1, .agg #[.int .i64 a2_0, .int .i64 a2_1, .string a2_2, .slice A2_3 l2_3.length c2_3]] w fun e w' => ∃ v3_ : Value, e = .returned (.agg #[.int .i64 r1, .int .i64 r2, .string r3, v3_]) ∧ Kd.V k26 26 w' w.heap.size (fun k_ => ((P0_3_ k_ ∨ P2_3_ k_) ∨ w.heap.size ≤ k_)) v3_ r4 ∧ Below w.heap.size w w' := by
 obtain ⟨r, hr, h⟩ := Option.bind_eq_some_iff.mp h; simp only [Option.some.injEq, Prod.mk.injEq] at h; obtain ⟨rfl, rfl, rfl, rfl⟩ := h; obtain ⟨_, h1, h2⟩ := Kd.V_at hs0_3; obtain ⟨_, h3, h4⟩ := Kd.V_at hs2_3; refine (tree_put.walk_ok l1 _ _ r A0_3 A1 A2_3 c0_3 c1 c2_3 P0_3_ P2_3_ w hr h1 h2 hc1 hr1 h3 h4).mono ?_; rintro e w' ⟨A', c', rfl, q1, q2, q3⟩; exact ⟨_, rfl, Kd.V_mk q1 q2, q3⟩

end Go.Proofs.Ytnafnieocpkkhaa.P

namespace Go.Proofs.Ytnafnieocpkkhaa.P
open Go.RowKit Go.Proofs.YtnafnieocpkkhaaW.PrintWords Go.Proofs.YtnafnieocpkkhaaW.PrintLast Go.Proofs.YtnafnieocpkkhaaW.PrintMore
attribute [local go_sem] max2_int min2_int max_two min_two max_three min_three max_four min_four
set_option linter.unusedVariables false
set_option linter.unusedSimpArgs false

def tree_Put.f (k : Nat) (a0_0 : Int) (a0_1 : Int) (a0_2 : ByteArray) (l0_3 : List (S26)) (l1 : List Int) (a2_0 : Int) (a2_1 : Int) (a2_2 : ByteArray) (l2_3 : List (S26)) : Option (Int × Int × ByteArray × List (S26) × Int) :=
 (tree_IsFormed.f k a0_0 a0_1 a0_2 l0_3).bind fun b => if b = true then ((tree_IsFormed.f k a2_0 a2_1 a2_2 l2_3).bind fun b2 => if b2 = true then ((tree_at.f k a0_0 a0_1 a0_2 l0_3 l1).bind fun t => if t.2.2.2.2.2 = true then ((tree_put.f a0_0 a0_1 a0_2 l0_3 l1 a2_0 a2_1 a2_2 l2_3).bind fun o => (tree_IsFormed.f k o.1 o.2.1 o.2.2.1 o.2.2.2).bind fun b3 => if b3 = true then ((tree_Clone.f k o.1 o.2.1 o.2.2.1 o.2.2.2).bind fun c => some (c.1, c.2.1, c.2.2.1, c.2.2.2, 0)) else some (0, 0, (⟨#[]⟩ : ByteArray), [], 4)) else some (0, 0, (⟨#[]⟩ : ByteArray), [], 2)) else some (0, 0, (⟨#[]⟩ : ByteArray), [], 4)) else some (0, 0, (⟨#[]⟩ : ByteArray), [], 4)
set_option maxHeartbeats 8000000 in
set_option maxRecDepth 100000 in
theorem tree_Put.calls (k : Nat) (a0_0 : Int) (a0_1 : Int) (a0_2 : ByteArray) (A0_3 : Option Addr) (c0_3 : Nat) (l0_3 : List (S26)) (A1 : Option Addr) (c1 : Nat) (l1 : List Int) (a2_0 : Int) (a2_1 : Int) (a2_2 : ByteArray) (A2_3 : Option Addr) (c2_3 : Nat) (l2_3 : List (S26)) (r1 : Int) (r2 : Int) (r3 : ByteArray) (r4 : List (S26)) (r5 : Int) (w : World) (hr0_3 : Kd.C k26 w A0_3 l0_3.length l0_3) (hc0_3 : l0_3.length ≤ c0_3) (hr1 : Kd.C (Kd.int .i64) w A1 l1.length l1) (hc1 : l1.length ≤ c1) (hr2_3 : Kd.C k26 w A2_3 l2_3.length l2_3) (hc2_3 : l2_3.length ≤ c2_3) (h : tree_Put.f k a0_0 a0_1 a0_2 l0_3 l1 a2_0 a2_1 a2_2 l2_3 = some (r1, r2, r3, r4, r5)) :
  Calls Try.prog 43 #[.agg #[.int .i64 a0_0, .int .i64 a0_1, .string a0_2, .slice A0_3 l0_3.length c0_3], .slice A1 l1.length c1, .agg #[.int .i64 a2_0, .int .i64 a2_1, .string a2_2, .slice A2_3 l2_3.length c2_3]] w fun e w' => ∃ v3_ : Value, e = .returned (.tuple #[.agg #[.int .i64 r1, .int .i64 r2, .string r3, v3_], .int .i64 r5]) ∧ Kd.R k26 26 w' w.heap.size (fun _ => True) v3_ r4 ∧ Below w.heap.size w w' := by
 have hu := Try.underlying26; have hw3 : Below w.heap.size w (((w.alloc (.cells #[.int .i64 a0_0, .int .i64 a0_1, .string a0_2, .slice A0_3 l0_3.length c0_3] 26)).alloc (.cells #[.int .i64 a2_0, .int .i64 a2_1, .string a2_2, .slice A2_3 l2_3.length c2_3] 26)).alloc (.cells #[.int .i64 0, .int .i64 0, .string ⟨#[]⟩, .slice none 0 0] 26)) := below_alloc (below_alloc (below_alloc (Below.refl _ _) _) _) _; have Cn := Aside0.mk (Kd.C_below hr0_3 hw3); have Cp := Aside0.mk (Kd.C_below hr1 hw3); have Cb := Aside0.mk (Kd.C_below hr2_3 hw3); have HB := Aside0.mk hw3; have H3 := Aside0.mk (show (((w.alloc (.cells #[.int .i64 a0_0, .int .i64 a0_1, .string a0_2, .slice A0_3 l0_3.length c0_3] 26)).alloc (.cells #[.int .i64 a2_0, .int .i64 a2_1, .string a2_2, .slice A2_3 l2_3.length c2_3] 26)).alloc (.cells #[.int .i64 0, .int .i64 0, .string ⟨#[]⟩, .slice none 0 0] 26)).heap[w.heap.size]? = some (.cells #[.int .i64 a0_0, .int .i64 a0_1, .string a0_2, .slice A0_3 l0_3.length c0_3] 26 (0, 0)) from blk_alloc (blk_alloc (blk_new w _) _) _); have H5 := Aside0.mk (show (((w.alloc (.cells #[.int .i64 a0_0, .int .i64 a0_1, .string a0_2, .slice A0_3 l0_3.length c0_3] 26)).alloc (.cells #[.int .i64 a2_0, .int .i64 a2_1, .string a2_2, .slice A2_3 l2_3.length c2_3] 26)).alloc (.cells #[.int .i64 0, .int .i64 0, .string ⟨#[]⟩, .slice none 0 0] 26)).heap[w.heap.size + 1]? = some (.cells #[.int .i64 a2_0, .int .i64 a2_1, .string a2_2, .slice A2_3 l2_3.length c2_3] 26 (0, 0)) from blk_alloc (by simpa using blk_new (w.alloc (.cells #[.int .i64 a0_0, .int .i64 a0_1, .string a0_2, .slice A0_3 l0_3.length c0_3] 26)) (.cells #[.int .i64 a2_0, .int .i64 a2_1, .string a2_2, .slice A2_3 l2_3.length c2_3] 26)) _); have H6 := Aside0.mk (show (((w.alloc (.cells #[.int .i64 a0_0, .int .i64 a0_1, .string a0_2, .slice A0_3 l0_3.length c0_3] 26)).alloc (.cells #[.int .i64 a2_0, .int .i64 a2_1, .string a2_2, .slice A2_3 l2_3.length c2_3] 26)).alloc (.cells #[.int .i64 0, .int .i64 0, .string ⟨#[]⟩, .slice none 0 0] 26)).heap[w.heap.size + 1 + 1]? = some (.cells #[.int .i64 0, .int .i64 0, .string ⟨#[]⟩, .slice none 0 0] 26 (0, 0)) by simpa using blk_new ((w.alloc (.cells #[.int .i64 a0_0, .int .i64 a0_1, .string a0_2, .slice A0_3 l0_3.length c0_3] 26)).alloc (.cells #[.int .i64 a2_0, .int .i64 a2_1, .string a2_2, .slice A2_3 l2_3.length c2_3] 26)) (.cells #[.int .i64 0, .int .i64 0, .string ⟨#[]⟩, .slice none 0 0] 26)); have HH := Aside0.mk h; clear hr0_3 hr1 hr2_3 hw3 h; obtain ⟨b1, E1, h⟩ := Option.bind_eq_some_iff.mp HH.out; have E1 := Aside0.mk E1; have HH2 := Aside0.mk h; clear h HH; go_enter Try.func43, Try.ntmps43; go_wp2_with fail; refine (tree_IsFormed.calls k a0_0 a0_1 a0_2 A0_3 c0_3 l0_3 b1 _ Cn.out hc0_3 E1.out).mono ?_; rintro e w4 ⟨rfl, hb⟩; replace Cn := Aside0.mk (Kd.C_below Cn.out hb); replace Cp := Aside0.mk (Kd.C_below Cp.out hb); replace Cb := Aside0.mk (Kd.C_below Cb.out hb); replace H3 := Aside0.mk (blk_below H3.out hb); replace H5 := Aside0.mk (blk_below H5.out hb); replace H6 := Aside0.mk (blk_below H6.out hb); replace HB := Aside0.mk (Cl.bstep HB.out hb); clear hb; obtain ⟨yH3_0, yH3_1, yH3_2, yH3_3⟩ := Cl.four H3.out; obtain ⟨yH5_0, yH5_1, yH5_2, yH5_3⟩ := Cl.four H5.out; obtain ⟨yH6_0, yH6_1, yH6_2, yH6_3⟩ := Cl.four H6.out; obtain ⟨zH6_0, zH6_1, zH6_2, zH6_3⟩ := Cl.ffour H6.out; have h := HH2.out
 cases b1 with
 | false =>
  rw [if_neg (by decide)] at h; simp only [Option.some.injEq, Prod.mk.injEq] at h; obtain ⟨rfl, rfl, rfl, rfl, rfl⟩ := h; go_wp2_with fail; refine bodyPost_ret (results_ct rfl _ _ (w.heap.size + 1 + 1) 26 #[.int .i64 0, .int .i64 0, .string ⟨#[]⟩, .slice none 0 0] (0, 0) _ rfl (by refine blk_put (cs := #[.int .i64 0, .int .i64 0, .string ⟨#[]⟩, .slice none 0 0]) ?_ 3 _ rfl; refine blk_put (cs := #[.int .i64 0, .int .i64 0, .string ⟨#[]⟩, .slice none 0 0]) ?_ 2 _ rfl; refine blk_put (cs := #[.int .i64 0, .int .i64 0, .string ⟨#[]⟩, .slice none 0 0]) ?_ 1 _ rfl; refine blk_put (cs := #[.int .i64 0, .int .i64 0, .string ⟨#[]⟩, .slice none 0 0]) ?_ 0 _ rfl; exact H6.out) Try.underlying26 rfl (by kernel_rfl)) rfl ?_; exact ⟨_, rfl, Kd.R_nil _ _ _ _ _, below_set (below_set (below_set (below_set HB.out (by omega)) (by omega)) (by omega)) (by omega)⟩
 | true =>
  rw [if_pos rfl] at h; obtain ⟨b2, E2, h⟩ := Option.bind_eq_some_iff.mp h; have E2 := Aside0.mk E2; have HH3 := Aside0.mk h; clear h HH2; go_wp2_with fail; refine (tree_IsFormed.calls k a2_0 a2_1 a2_2 A2_3 c2_3 l2_3 b2 _ Cb.out hc2_3 E2.out).mono ?_; rintro e w5 ⟨rfl, hb⟩; replace Cn := Aside0.mk (Kd.C_below Cn.out hb); replace Cp := Aside0.mk (Kd.C_below Cp.out hb); replace Cb := Aside0.mk (Kd.C_below Cb.out hb); replace H3 := Aside0.mk (blk_below H3.out hb); replace H5 := Aside0.mk (blk_below H5.out hb); replace H6 := Aside0.mk (blk_below H6.out hb); replace HB := Aside0.mk (Cl.bstep HB.out hb); clear hb yH3_0 yH3_1 yH3_2 yH3_3 yH5_0 yH5_1 yH5_2 yH5_3 yH6_0 yH6_1 yH6_2 yH6_3 zH6_0 zH6_1 zH6_2 zH6_3; obtain ⟨yH3_0, yH3_1, yH3_2, yH3_3⟩ := Cl.four H3.out; obtain ⟨yH5_0, yH5_1, yH5_2, yH5_3⟩ := Cl.four H5.out; obtain ⟨yH6_0, yH6_1, yH6_2, yH6_3⟩ := Cl.four H6.out; obtain ⟨zH6_0, zH6_1, zH6_2, zH6_3⟩ := Cl.ffour H6.out; have h := HH3.out
  cases b2 with
  | false =>
   rw [if_neg (by decide)] at h; simp only [Option.some.injEq, Prod.mk.injEq] at h; obtain ⟨rfl, rfl, rfl, rfl, rfl⟩ := h; go_wp2_with fail; refine bodyPost_ret (results_ct rfl _ _ (w.heap.size + 1 + 1) 26 #[.int .i64 0, .int .i64 0, .string ⟨#[]⟩, .slice none 0 0] (0, 0) _ rfl (by refine blk_put (cs := #[.int .i64 0, .int .i64 0, .string ⟨#[]⟩, .slice none 0 0]) ?_ 3 _ rfl; refine blk_put (cs := #[.int .i64 0, .int .i64 0, .string ⟨#[]⟩, .slice none 0 0]) ?_ 2 _ rfl; refine blk_put (cs := #[.int .i64 0, .int .i64 0, .string ⟨#[]⟩, .slice none 0 0]) ?_ 1 _ rfl; refine blk_put (cs := #[.int .i64 0, .int .i64 0, .string ⟨#[]⟩, .slice none 0 0]) ?_ 0 _ rfl; exact H6.out) Try.underlying26 rfl (by kernel_rfl)) rfl ?_; exact ⟨_, rfl, Kd.R_nil _ _ _ _ _, below_set (below_set (below_set (below_set HB.out (by omega)) (by omega)) (by omega)) (by omega)⟩
  | true =>
   rw [if_pos rfl] at h; obtain ⟨⟨t1, t2, t3, t4, t5, t6⟩, E3, h⟩ := Option.bind_eq_some_iff.mp h; have E3 := Aside0.mk E3; have HH4 := Aside0.mk h; clear h HH3; go_wp2_with fail; refine (tree_at.calls k a0_0 a0_1 a0_2 _ A0_3 c0_3 l0_3 A1 c1 l1 t1 t2 t3 t4 t5 t6 _ (Kd.V_mk hc0_3 (Kd.C_F k26_heap Cn.out)) Cp.out hc1 E3.out).mono ?_; rintro e w6 ⟨v3, rfl, hV, hb⟩; replace Cn := Aside0.mk (Kd.C_below Cn.out hb); replace Cp := Aside0.mk (Kd.C_below Cp.out hb); replace Cb := Aside0.mk (Kd.C_below Cb.out hb); replace H3 := Aside0.mk (blk_below H3.out hb); replace H5 := Aside0.mk (blk_below H5.out hb); replace H6 := Aside0.mk (blk_below H6.out hb); replace HB := Aside0.mk (Cl.bstep HB.out hb); obtain ⟨A6, c6, rfl⟩ := Kd.V_slice hV; clear hb hV yH3_0 yH3_1 yH3_2 yH3_3 yH5_0 yH5_1 yH5_2 yH5_3 yH6_0 yH6_1 yH6_2 yH6_3 zH6_0 zH6_1 zH6_2 zH6_3; obtain ⟨yH3_0, yH3_1, yH3_2, yH3_3⟩ := Cl.four H3.out; obtain ⟨yH5_0, yH5_1, yH5_2, yH5_3⟩ := Cl.four H5.out; obtain ⟨yH6_0, yH6_1, yH6_2, yH6_3⟩ := Cl.four H6.out; obtain ⟨zH6_0, zH6_1, zH6_2, zH6_3⟩ := Cl.ffour H6.out; have h := HH4.out
   (try dsimp only at h)
   cases t6 with
   | false =>
    rw [if_neg (by decide)] at h; have ha := below_alloc (Below.refl w6.heap.size w6) (.cells #[.int .i64 t1, .int .i64 t2, .string t3, .slice A6 t4.length c6] 26); replace Cn := Aside0.mk (Kd.C_below Cn.out ha); replace Cp := Aside0.mk (Kd.C_below Cp.out ha); replace Cb := Aside0.mk (Kd.C_below Cb.out ha); replace H3 := Aside0.mk (blk_below H3.out ha); replace H5 := Aside0.mk (blk_below H5.out ha); replace H6 := Aside0.mk (blk_below H6.out ha); replace HB := Aside0.mk (Cl.bstep HB.out ha); clear ha yH3_0 yH3_1 yH3_2 yH3_3 yH5_0 yH5_1 yH5_2 yH5_3 yH6_0 yH6_1 yH6_2 yH6_3 zH6_0 zH6_1 zH6_2 zH6_3; obtain ⟨yH3_0, yH3_1, yH3_2, yH3_3⟩ := Cl.four H3.out; obtain ⟨yH5_0, yH5_1, yH5_2, yH5_3⟩ := Cl.four H5.out; obtain ⟨yH6_0, yH6_1, yH6_2, yH6_3⟩ := Cl.four H6.out; obtain ⟨zH6_0, zH6_1, zH6_2, zH6_3⟩ := Cl.ffour H6.out; simp only [Option.some.injEq, Prod.mk.injEq] at h; obtain ⟨rfl, rfl, rfl, rfl, rfl⟩ := h; go_wp2_with fail; refine bodyPost_ret (results_ct rfl _ _ (w.heap.size + 1 + 1) 26 #[.int .i64 0, .int .i64 0, .string ⟨#[]⟩, .slice none 0 0] (0, 0) _ rfl (by refine blk_put (cs := #[.int .i64 0, .int .i64 0, .string ⟨#[]⟩, .slice none 0 0]) ?_ 3 _ rfl; refine blk_put (cs := #[.int .i64 0, .int .i64 0, .string ⟨#[]⟩, .slice none 0 0]) ?_ 2 _ rfl; refine blk_put (cs := #[.int .i64 0, .int .i64 0, .string ⟨#[]⟩, .slice none 0 0]) ?_ 1 _ rfl; refine blk_put (cs := #[.int .i64 0, .int .i64 0, .string ⟨#[]⟩, .slice none 0 0]) ?_ 0 _ rfl; exact H6.out) Try.underlying26 rfl (by kernel_rfl)) rfl ?_; exact ⟨_, rfl, Kd.R_nil _ _ _ _ _, below_set (below_set (below_set (below_set HB.out (by omega)) (by omega)) (by omega)) (by omega)⟩
   | true =>
    rw [if_pos rfl] at h; obtain ⟨⟨o1, o2, o3, o4⟩, E4, h⟩ := Option.bind_eq_some_iff.mp h; obtain ⟨b3, E5, h⟩ := Option.bind_eq_some_iff.mp h; have E4 := Aside0.mk E4; have E5 := Aside0.mk E5; have HH5 := Aside0.mk h; clear h HH4; have ha := below_alloc (Below.refl w6.heap.size w6) (.cells #[.int .i64 t1, .int .i64 t2, .string t3, .slice A6 t4.length c6] 26); replace Cn := Aside0.mk (Kd.C_below Cn.out ha); replace Cp := Aside0.mk (Kd.C_below Cp.out ha); replace Cb := Aside0.mk (Kd.C_below Cb.out ha); replace H3 := Aside0.mk (blk_below H3.out ha); replace H5 := Aside0.mk (blk_below H5.out ha); replace H6 := Aside0.mk (blk_below H6.out ha); replace HB := Aside0.mk (Cl.bstep HB.out ha); clear ha yH3_0 yH3_1 yH3_2 yH3_3 yH5_0 yH5_1 yH5_2 yH5_3 yH6_0 yH6_1 yH6_2 yH6_3 zH6_0 zH6_1 zH6_2 zH6_3; obtain ⟨yH3_0, yH3_1, yH3_2, yH3_3⟩ := Cl.four H3.out; obtain ⟨yH5_0, yH5_1, yH5_2, yH5_3⟩ := Cl.four H5.out; obtain ⟨yH6_0, yH6_1, yH6_2, yH6_3⟩ := Cl.four H6.out; obtain ⟨zH6_0, zH6_1, zH6_2, zH6_3⟩ := Cl.ffour H6.out; go_wp2_with fail; refine (tree_put.calls a0_0 a0_1 a0_2 _ A0_3 c0_3 l0_3 A1 c1 l1 a2_0 a2_1 a2_2 _ A2_3 c2_3 l2_3 o1 o2 o3 o4 _ (Kd.V_mk hc0_3 (Kd.C_F k26_heap Cn.out)) Cp.out hc1 (Kd.V_mk hc2_3 (Kd.C_F k26_heap Cb.out)) E4.out).mono ?_; rintro e w7 ⟨v4, rfl, hV, hb⟩; replace Cn := Aside0.mk (Kd.C_below Cn.out hb); replace Cp := Aside0.mk (Kd.C_below Cp.out hb); replace Cb := Aside0.mk (Kd.C_below Cb.out hb); replace H3 := Aside0.mk (blk_below H3.out hb); replace H5 := Aside0.mk (blk_below H5.out hb); replace H6 := Aside0.mk (blk_below H6.out hb); replace HB := Aside0.mk (Cl.bstep HB.out hb); obtain ⟨A7, c7, rfl⟩ := Kd.V_slice hV; obtain ⟨_, hoc, hCo⟩ := Kd.V_reads' hV; have Co := Aside0.mk hCo; clear hb hV hCo yH3_0 yH3_1 yH3_2 yH3_3 yH5_0 yH5_1 yH5_2 yH5_3 yH6_0 yH6_1 yH6_2 yH6_3 zH6_0 zH6_1 zH6_2 zH6_3; obtain ⟨yH3_0, yH3_1, yH3_2, yH3_3⟩ := Cl.four H3.out; obtain ⟨yH5_0, yH5_1, yH5_2, yH5_3⟩ := Cl.four H5.out; obtain ⟨yH6_0, yH6_1, yH6_2, yH6_3⟩ := Cl.four H6.out; obtain ⟨zH6_0, zH6_1, zH6_2, zH6_3⟩ := Cl.ffour H6.out; have ha := below_alloc (Below.refl w7.heap.size w7) (.cells #[.int .i64 o1, .int .i64 o2, .string o3, .slice A7 o4.length c7] 26)
    have H11 : Aside0 ((w7.alloc (.cells #[.int .i64 o1, .int .i64 o2, .string o3, .slice A7 o4.length c7] 26)).heap[w7.heap.size]? = some (.cells #[.int .i64 o1, .int .i64 o2, .string o3, .slice A7 o4.length c7] 26 (0, 0))) := ⟨blk_new w7 _⟩
    replace Cn := Aside0.mk (Kd.C_below Cn.out ha); replace Cp := Aside0.mk (Kd.C_below Cp.out ha); replace Cb := Aside0.mk (Kd.C_below Cb.out ha); replace H3 := Aside0.mk (blk_below H3.out ha); replace H5 := Aside0.mk (blk_below H5.out ha); replace H6 := Aside0.mk (blk_below H6.out ha); replace HB := Aside0.mk (Cl.bstep HB.out ha); replace Co := Aside0.mk (Kd.C_below Co.out ha); clear ha yH3_0 yH3_1 yH3_2 yH3_3 yH5_0 yH5_1 yH5_2 yH5_3 yH6_0 yH6_1 yH6_2 yH6_3 zH6_0 zH6_1 zH6_2 zH6_3; obtain ⟨yH3_0, yH3_1, yH3_2, yH3_3⟩ := Cl.four H3.out; obtain ⟨yH5_0, yH5_1, yH5_2, yH5_3⟩ := Cl.four H5.out; obtain ⟨yH6_0, yH6_1, yH6_2, yH6_3⟩ := Cl.four H6.out; obtain ⟨zH6_0, zH6_1, zH6_2, zH6_3⟩ := Cl.ffour H6.out; obtain ⟨yH11_0, yH11_1, yH11_2, yH11_3⟩ := Cl.four H11.out; go_wp2_with fail; refine (tree_IsFormed.calls k o1 o2 o3 A7 c7 o4 b3 _ Co.out hoc E5.out).mono ?_; rintro e w8 ⟨rfl, hb⟩; replace Cn := Aside0.mk (Kd.C_below Cn.out hb); replace Cp := Aside0.mk (Kd.C_below Cp.out hb); replace Cb := Aside0.mk (Kd.C_below Cb.out hb); replace H3 := Aside0.mk (blk_below H3.out hb); replace H5 := Aside0.mk (blk_below H5.out hb); replace H6 := Aside0.mk (blk_below H6.out hb); replace HB := Aside0.mk (Cl.bstep HB.out hb); replace Co := Aside0.mk (Kd.C_below Co.out hb); replace H11 := Aside0.mk (blk_below H11.out hb); clear hb yH3_0 yH3_1 yH3_2 yH3_3 yH5_0 yH5_1 yH5_2 yH5_3 yH6_0 yH6_1 yH6_2 yH6_3 zH6_0 zH6_1 zH6_2 zH6_3 yH11_0 yH11_1 yH11_2 yH11_3; obtain ⟨yH3_0, yH3_1, yH3_2, yH3_3⟩ := Cl.four H3.out; obtain ⟨yH5_0, yH5_1, yH5_2, yH5_3⟩ := Cl.four H5.out; obtain ⟨yH6_0, yH6_1, yH6_2, yH6_3⟩ := Cl.four H6.out; obtain ⟨zH6_0, zH6_1, zH6_2, zH6_3⟩ := Cl.ffour H6.out; obtain ⟨yH11_0, yH11_1, yH11_2, yH11_3⟩ := Cl.four H11.out; have h := HH5.out
    (try dsimp only at h)
    cases b3 with
    | false =>
     rw [if_neg (by decide)] at h; simp only [Option.some.injEq, Prod.mk.injEq] at h; obtain ⟨rfl, rfl, rfl, rfl, rfl⟩ := h; go_wp2_with fail; refine bodyPost_ret (results_ct rfl _ _ (w.heap.size + 1 + 1) 26 #[.int .i64 0, .int .i64 0, .string ⟨#[]⟩, .slice none 0 0] (0, 0) _ rfl (by refine blk_put (cs := #[.int .i64 0, .int .i64 0, .string ⟨#[]⟩, .slice none 0 0]) ?_ 3 _ rfl; refine blk_put (cs := #[.int .i64 0, .int .i64 0, .string ⟨#[]⟩, .slice none 0 0]) ?_ 2 _ rfl; refine blk_put (cs := #[.int .i64 0, .int .i64 0, .string ⟨#[]⟩, .slice none 0 0]) ?_ 1 _ rfl; refine blk_put (cs := #[.int .i64 0, .int .i64 0, .string ⟨#[]⟩, .slice none 0 0]) ?_ 0 _ rfl; exact H6.out) Try.underlying26 rfl (by kernel_rfl)) rfl ?_; exact ⟨_, rfl, Kd.R_nil _ _ _ _ _, below_set (below_set (below_set (below_set HB.out (by omega)) (by omega)) (by omega)) (by omega)⟩
    | true =>
     rw [if_pos rfl] at h; obtain ⟨⟨q1, q2, q3, q4⟩, E6, h⟩ := Option.bind_eq_some_iff.mp h; have E6 := Aside0.mk E6; simp only [Option.some.injEq, Prod.mk.injEq] at h; obtain ⟨rfl, rfl, rfl, rfl, rfl⟩ := h; clear HH5; have HS := Aside0.mk HB.out.size; have HL := Aside0.mk (blk_lt H6.out); go_wp2_with fail; refine (tree_Clone.calls k o1 o2 o3 A7 c7 o4 q1 q2 q3 q4 _ Co.out hoc E6.out).mono ?_; rintro e w9 ⟨v9, rfl, hR, hb⟩; replace Cn := Aside0.mk (Kd.C_below Cn.out hb); replace Cp := Aside0.mk (Kd.C_below Cp.out hb); replace Cb := Aside0.mk (Kd.C_below Cb.out hb); replace H3 := Aside0.mk (blk_below H3.out hb); replace H5 := Aside0.mk (blk_below H5.out hb); replace H6 := Aside0.mk (blk_below H6.out hb); replace HB := Aside0.mk (Cl.bstep HB.out hb); replace Co := Aside0.mk (Kd.C_below Co.out hb); replace H11 := Aside0.mk (blk_below H11.out hb); obtain ⟨A9, c9, rfl⟩ := Kd.R_slice hR; have HR := Aside0.mk (Kd.R_mono (ok' := fun k => k ≠ w.heap.size + 1 + 1) (Kd.R_lower (Kd.R_bound hR) HS.out) (fun k hk => by have h1 := hk.2.1; have h2 := HL.out; omega)); clear hb hR yH3_0 yH3_1 yH3_2 yH3_3 yH5_0 yH5_1 yH5_2 yH5_3 yH6_0 yH6_1 yH6_2 yH6_3 zH6_0 zH6_1 zH6_2 zH6_3 yH11_0 yH11_1 yH11_2 yH11_3; obtain ⟨yH3_0, yH3_1, yH3_2, yH3_3⟩ := Cl.four H3.out; obtain ⟨yH5_0, yH5_1, yH5_2, yH5_3⟩ := Cl.four H5.out; obtain ⟨yH6_0, yH6_1, yH6_2, yH6_3⟩ := Cl.four H6.out; obtain ⟨zH6_0, zH6_1, zH6_2, zH6_3⟩ := Cl.ffour H6.out; obtain ⟨yH11_0, yH11_1, yH11_2, yH11_3⟩ := Cl.four H11.out; go_wp2_with fail; refine bodyPost_ret (results_ct rfl _ _ (w.heap.size + 1 + 1) 26 #[.int .i64 q1, .int .i64 q2, .string q3, .slice A9 q4.length c9] (0, 0) _ rfl (by refine blk_put (cs := #[.int .i64 q1, .int .i64 q2, .string q3, .slice none 0 0]) ?_ 3 _ rfl; refine blk_put (cs := #[.int .i64 q1, .int .i64 q2, .string ⟨#[]⟩, .slice none 0 0]) ?_ 2 _ rfl; refine blk_put (cs := #[.int .i64 q1, .int .i64 0, .string ⟨#[]⟩, .slice none 0 0]) ?_ 1 _ rfl; refine blk_put (cs := #[.int .i64 0, .int .i64 0, .string ⟨#[]⟩, .slice none 0 0]) ?_ 0 _ rfl; exact H6.out) Try.underlying26 rfl (by kernel_rfl)) rfl ?_; exact ⟨_, rfl, Kd.R_mono (Kd.R_far (p := ⟨w.heap.size + 1 + 1, 3, none⟩) (Kd.R_far (p := ⟨w.heap.size + 1 + 1, 2, none⟩) (Kd.R_far (p := ⟨w.heap.size + 1 + 1, 1, none⟩) (Kd.R_far (p := ⟨w.heap.size + 1 + 1, 0, none⟩) HR.out (fun _ hk => hk) _) (fun _ hk => hk) _) (fun _ hk => hk) _) (fun _ hk => hk) _) (fun _ _ => trivial), below_set (below_set (below_set (below_set HB.out (by omega)) (by omega)) (by omega)) (by omega)⟩

end Go.Proofs.Ytnafnieocpkkhaa.P

namespace Go.Proofs.Ytnafnieocpkkhaa.P
open Go.RowKit Go.Proofs.YtnafnieocpkkhaaW.PrintWords Go.Proofs.YtnafnieocpkkhaaW.PrintLast Go.Proofs.YtnafnieocpkkhaaW.PrintMore
attribute [local go_sem] max2_int min2_int max_two min_two max_three min_three max_four min_four
set_option linter.unusedVariables false
set_option linter.unusedSimpArgs false

def marginalialaw05_short.f (l0 : List Int) : Option (List Int) := some (l0.take 40)
theorem marginalialaw05_short.lit {W : World} {base e : Nat} (hbase : base ≤ W.heap.size) : Kd.R (Kd.int .i64) e (W.alloc (.cells #[] e)) base (fun _ => True) (.slice (some ⟨W.heap.size, 0, none⟩) 0 0) [] := by
 refine ⟨fun _ _ => trivial, [], ?_, Reps.none _ _⟩; have h2 := World.ownsRow_lit (base := base) (e := e) (size := 1) W #[] 0 hbase (by unfold maxLen; omega) (by simp)
 have h3 : (W.alloc (Obj.cells #[] e)).ownsRow base e 1 (Value.slice (some { block := W.heap.size, off := 0 }) 0 0) 0 [] := (by simpa using h2)
 exact h3
theorem marginalialaw05_short.info : (Try.prog.info? 3).map (fun i => (i.zero, i.size, i.bytes)) = some (some (.int .i64 0), 1, 8) := by kernel_rfl
set_option maxHeartbeats 4000000 in
set_option maxRecDepth 100000 in
theorem marginalialaw05_short.calls (A0 : Option Addr) (c0 : Nat) (l0 : List Int) (r : List Int) (w : World) (hr0 : Kd.C (Kd.int .i64) w A0 l0.length l0) (hc0 : l0.length ≤ c0) (h : marginalialaw05_short.f l0 = some r) :
  Calls Try.prog 45 #[.slice A0 l0.length c0] w fun e w' => ∃ v0_ : Value, e = .returned (v0_) ∧ Kd.R (Kd.int .i64) 3 w' w.heap.size (fun _ => True) v0_ r ∧ Below w.heap.size w w' := by
 have hu := Try.underlying30; injection h with h; subst h; have hE := Aside0.mk (marginalialaw05_short.lit (W := w) (base := w.heap.size) (e := 3) (Nat.le_refl _)); have hA := Aside0.mk (below_alloc (Below.refl w.heap.size w) (.cells #[] 3)); have hC := Aside0.mk (Kd.C_below (Kd.C_take hr0 (m := min 40 l0.length) (by omega)) hA.out)
 have htk : l0.take (min 40 l0.length) = l0.take 40 := (by rw [← List.take_take, List.take_length])
 rw [htk] at hC; have htl : (l0.take 40).length = min 40 l0.length := List.length_take; rw [htl] at hC; clear hr0 htk
 rcases Nat.lt_or_ge 40 l0.length with hlt | hle
 ·have e1 : min 40 l0.length = 40 := (by omega)
  rw [e1] at hC htl
  have h40 : (40 : Int) < (l0.length : Int) := (by omega)
  have h41 : (40 : Int) ≤ (c0 : Int) := (by omega)
  have h42 : min (l0.length : Int) 40 = 40 := (by omega)
  have HTL := Aside0.mk htl; clear e1 htl hlt; go_enter Try.func45, Try.ntmps45
  go_wp2_with (first | (at_builtin; refine Kd.R_append_rows (Kd.int .i64) (w0 := w) w.heap.size rfl (.tmp 3) (.tmp 8) 30 3 (.int .i64 0) 8 rfl hu marginalialaw05_short.info rfl (show 0 < 1 by decide) (by omega) (.slice (some ⟨w.heap.size, 0, none⟩) 0 0) [] (l0.take 40) A0 40 c0 (fun _ => True) (fun _ => False) rfl rfl hE.out hC.out (fun x cs h => h) (fun _ hk => hk.elim) (fun _ _ => trivial) hA.out hA.out.size (show (([] : List Int).length + 40) * 8 ≤ 140737488355328 by decide) ?_; intro v1 w1 hr hb hg hat; have HR := Aside0.mk hr; have HB2 := Aside0.mk hb; clear hr hb hg hat))
  go_ret; exact ⟨_, rfl, by simpa using HR.out, HB2.out⟩
 ·have e1 : min 40 l0.length = l0.length := (by omega)
  rw [e1] at hC htl; have e2 : l0.take 40 = l0 := List.take_of_length_le hle; rw [e2] at hC ⊢
  have h40 : ¬ (40 : Int) < (l0.length : Int) := (by omega)
  have h41 : (l0.length : Int) ≤ (c0 : Int) := (by omega)
  have h42 : min (l0.length : Int) 40 = (l0.length : Int) := (by omega)
  clear e1 htl e2; go_enter Try.func45, Try.ntmps45
  go_wp2_with (first | (at_builtin; refine Kd.R_append_rows (Kd.int .i64) (w0 := w) w.heap.size rfl (.tmp 3) (.tmp 8) 30 3 (.int .i64 0) 8 rfl hu marginalialaw05_short.info rfl (show 0 < 1 by decide) (by omega) (.slice (some ⟨w.heap.size, 0, none⟩) 0 0) [] l0 A0 l0.length c0 (fun _ => True) (fun _ => False) rfl rfl hE.out hC.out (fun x cs h => h) (fun _ hk => hk.elim) (fun _ _ => trivial) hA.out hA.out.size (show (([] : List Int).length + l0.length) * 8 ≤ 140737488355328 by rw [List.length_nil]; omega) ?_; intro v1 w1 hr hb hg hat; have HR := Aside0.mk hr; have HB2 := Aside0.mk hb; clear hr hb hg hat))
  go_ret; exact ⟨_, rfl, by simpa using HR.out, HB2.out⟩

end Go.Proofs.Ytnafnieocpkkhaa.P

set_option linter.unusedVariables false
set_option linter.unusedSimpArgs false
namespace Go.Proofs.Ytnafnieocpkkhaa.P
open Go.RowKit Go.Proofs.YtnafnieocpkkhaaW.PrintWords Go.Proofs.YtnafnieocpkkhaaW.PrintLast Go.Proofs.YtnafnieocpkkhaaW.PrintMore
theorem bytes_toList {a b : ByteArray} (h : a.toList = b.toList) : a = b := by
 rw [Lib.toList_data, Lib.toList_data] at h
 cases a; cases b
 congr 1
 exact Array.ext' h
/-! ### Put -/
def putp : List Int → Nd → Nd → Nd
 | [], _, b => b
 | i :: p, n, b => match n.f2[i.toNat]? with
  | some x => ⟨n.f0, n.f1, n.f2.set i.toNat (putp p x b)⟩
  | none => n
theorem sum_set {f : Nd → Nat} {y : Nd} : ∀ {l : List Nd} {i : Nat} {x : Nd}, l[i]? = some x → ((l.set i y).map f).sum + f x = (l.map f).sum + f y := by
 intro l
 induction l with
 | nil => intro i x h; simp at h
 | cons a r ih =>
  intro i x h
  cases i with
  | zero =>
   simp only [List.getElem?_cons_zero, Option.some.injEq] at h; subst h
   simp
   omega
  | succ i =>
   simp only [List.getElem?_cons_succ] at h; have := ih h; simp only [List.set_cons_succ, List.map_cons, List.sum_cons]
   omega
theorem putp_nd (b : Nd) : ∀ (p : List Int) (n : Nd), nd (putp p n b) ≤ nd n + nd b := by
 intro p
 induction p with
 | nil => intro n; rw [putp]; omega
 | cons i p ih =>
  intro n; rw [putp]
  cases h : n.f2[i.toNat]? with
  | none => simp
  | some x =>
   have h1 := sum_set (f := nd) (y := putp p x b) h; have h2 := ih x; have h3 := nd_eq (⟨n.f0, n.f1, n.f2.set i.toNat (putp p x b)⟩ : Nd); have h4 := nd_eq n; simp only at h3 ⊢
   omega
theorem putp_wd (b : Nd) : ∀ (p : List Int) (n : Nd), wd (putp p n b) ≤ wd n + wd b := by
 intro p
 induction p with
 | nil => intro n; rw [putp]; omega
 | cons i p ih =>
  intro n; rw [putp]
  cases h : n.f2[i.toNat]? with
  | none => simp
  | some x =>
   have h1 := sum_set (f := wd) (y := putp p x b) h; have h2 := ih x; have h3 := wd_eq (⟨n.f0, n.f1, n.f2.set i.toNat (putp p x b)⟩ : Nd); have h4 := wd_eq n; simp only at h3 ⊢
   omega
theorem put_go (b : Nd) : ∀ (p : List Int) (n : Nd), sm n → (atp p n).isSome = true → tree_put.go p n b = some (putp p n b) := by
 intro p
 induction p with
 | nil => intro n _ _; rfl
 | cons i p ih =>
  intro n hs h; rw [atp] at h
  split at h
  ·rename_i h0
   cases e : n.f2[i.toNat]? with
   | none => rw [e] at h; cases h
   | some x =>
    rw [e, Option.bind_some, Option.isSome_map] at h; rw [tree_put.go, if_pos hs.len, if_pos h0, e, Option.bind_some, ih x (hs.kid (List.mem_of_getElem? e)) h, putp, e]; rfl
  ·cases h
/-- What Put answers. -/
def putans (m x : Nd) (p : List Int) : Nd × Int :=
 if fmd m = true ∧ fmd x = true then (if (atp p m).isSome = true then (if fmd (putp p m x) = true then (putp p m x, 0) else (⟨0, ⟨0, ⟨#[]⟩⟩, []⟩, 4)) else (⟨0, ⟨0, ⟨#[]⟩⟩, []⟩, 2)) else (⟨0, ⟨0, ⟨#[]⟩⟩, []⟩, 4)
theorem Put_ev (m x : Nd) (p : List Int) (hm : sm m) (hx : sm x) (hmx : wd m + wd x ≤ 1000000000 ∧ nd m + nd x ≤ 1000000) (hp : p.length ≤ 1000000000) :
  Ev (fun k => tree_Put.f k m.f0 m.f1.f0 m.f1.f1 m.f2 p x.f0 x.f1.f0 x.f1.f1 x.f2) ((putans m x p).1.f0, (putans m x p).1.f1.f0, (putans m x p).1.f1.f1, (putans m x p).1.f2, (putans m x p).2) := by
 unfold tree_Put.f putans; refine Ev.bind (IsFormed_ev m hm) ?_; by_cases h1 : fmd m = true
 ·refine Ev.pos h1 (Ev.bind (IsFormed_ev x hx) ?_); by_cases h2 : fmd x = true
  ·rw [if_pos ⟨h1, h2⟩]; refine Ev.pos h2 (Ev.bind (at_ev m p hm hp) ?_); by_cases h3 : (atp p m).isSome = true
   ·rw [if_pos h3]; have hg := put_go x p m hm h3; obtain ⟨z, hz⟩ := Option.isSome_iff_exists.1 h3
    have e1 : (ans 0 (atp p m)).2.2.2.2.2 = true := (by rw [hz]; rfl)
    refine Ev.pos e1 ?_
    have e2 : tree_put.f m.f0 m.f1.f0 m.f1.f1 m.f2 p x.f0 x.f1.f0 x.f1.f1 x.f2 = some ((putp p m x).f0, (putp p m x).f1.f0, (putp p m x).f1.f1, (putp p m x).f2) := by
     unfold tree_put.f; rw [Nd.eta, Nd.eta, hg]; rfl
    refine Ev.bind1 e2 ?_; have hw := putp_wd x p m; have hn := putp_nd x p m
    have hsp : sm (putp p m x) := ⟨by omega, by omega⟩
    refine Ev.bind (IsFormed_ev _ hsp) ?_; by_cases h4 : fmd (putp p m x) = true
    ·rw [if_pos h4]; exact Ev.pos h4 (Ev.bind (clone_ev _ hsp) (Ev.now _))
    ·rw [if_neg h4]; exact Ev.neg h4 (Ev.now _)
   ·rw [if_neg h3]
    have e1 : ¬ (ans 0 (atp p m)).2.2.2.2.2 = true := by
     cases hz : atp p m with
     | none => intro h; cases h
     | some z => rw [hz] at h3; exact absurd rfl h3
    exact Ev.neg e1 (Ev.now _)
  ·rw [if_neg (fun h => h2 h.2)]; exact Ev.neg h2 (Ev.now _)
 ·rw [if_neg (fun h => h1 h.1)]; exact Ev.neg h1 (Ev.now _)
end Go.Proofs.Ytnafnieocpkkhaa.P

namespace Go.Proofs.Ytnafnieocpkkhaa.P
open Go.RowKit Go.Proofs.YtnafnieocpkkhaaW.PrintWords Go.Proofs.YtnafnieocpkkhaaW.PrintLast Go.Proofs.YtnafnieocpkkhaaW.PrintMore
attribute [local go_sem] max2_int min2_int max_two min_two max_three min_three max_four min_four
set_option linter.unusedVariables false
set_option linter.unusedSimpArgs false

/-- All pairs of two lists, one after the other. -/
def tree_Same.eqs (g : S26 → S26 → Option Bool) : List (S26) → List (S26) → Option Bool
 | [], _ => some true
 | _ :: _, [] => some true
 | x :: r, y :: s => (g x y).bind fun b => if b = true then tree_Same.eqs g r s else some false
def tree_Same.go : Nat → S26 → S26 → Option Bool
 | 0, _, _ => none
 | m + 1, a, b => if a.f0 = b.f0 then (if (a.f1.f0 == b.f1.f0 && a.f1.f1.toList == b.f1.f1.toList) = true then (if a.f2.length = b.f2.length then tree_Same.eqs (tree_Same.go m) a.f2 b.f2 else some false) else some false) else some false
def tree_Same.f (k : Nat) (a0_0 : Int) (a0_1 : Int) (a0_2 : ByteArray) (l0_3 : List (S26)) (a1_0 : Int) (a1_1 : Int) (a1_2 : ByteArray) (l1_3 : List (S26)) : Option (Bool) := tree_Same.go k ⟨a0_0, ⟨a0_1, a0_2⟩, l0_3⟩ ⟨a1_0, ⟨a1_1, a1_2⟩, l1_3⟩
theorem tree_Same.bytes {a b : ByteArray} (h : a.toList = b.toList) : a = b := by
 rw [Lib.toList_data, Lib.toList_data] at h
 cases a; cases b
 congr 1
 exact Array.ext' h
def tree_Same.Holds (m : Nat) : Prop := ∀ (a b : S26) (A B : Option Addr) (ca cb : Nat) (r : Bool) (w : World), a.f2.length ≤ ca → b.f2.length ≤ cb → Kd.C k26 w A a.f2.length a.f2 → Kd.C k26 w B b.f2.length b.f2 → tree_Same.go m a b = some r →
 Calls Try.prog 36 #[.agg #[.int .i64 a.f0, .int .i64 a.f1.f0, .string a.f1.f1, .slice A a.f2.length ca], .agg #[.int .i64 b.f0, .int .i64 b.f1.f0, .string b.f1.f1, .slice B b.f2.length cb]] w fun e w' => e = .returned (.bool r) ∧ Below w.heap.size w w'
set_option maxHeartbeats 8000000 in
set_option maxRecDepth 100000 in
theorem tree_Same.eqs_ok (m : Nat) (IH : tree_Same.Holds m) (l s : List (S26)) (A B : Option Addr) (ca cb : Nat) (r : Bool) (w : World) (hn : l.length = s.length) (hca : l.length ≤ ca) (hcb : s.length ≤ cb) (hA : Kd.C k26 w A l.length l) (hB : Kd.C k26 w B s.length s) (h : tree_Same.eqs (tree_Same.go m) l s = some r) :
  Calls Try.prog 69 #[.slice A l.length ca, .slice B s.length cb, .func (.func 36) #[] #[]] w fun e w' => e = .returned (.bool r) ∧ Below w.heap.size w w' := by
 have hu := Try.underlying26; have HIH := Aside0.mk IH; have HA := Aside0.mk hA; have HS := Aside0.mk hB; have HH := Aside0.mk h; have HN := Aside0.mk hn; have HB := Aside0.mk (Below.refl w.heap.size w); have hmax : l.length ≤ 9223372036854775807 := hA.2.1
 have d0 : ((l.length : Int) != (s.length : Int)) = false := (by simp [hn])
 have d0' : (l.length != s.length) = false := (by simp [hn])
 clear IH hA hB h hn; go_enter Try.func69, Try.ntmps69; go_wp2_with fail
 go_loopg [17] l.length (fun kq v17 w' => ∃ (i : Nat), v17 = .int .i64 (i : Int) ∧ Aside0 (i + kq = l.length) ∧ Aside0 (tree_Same.eqs (tree_Same.go m) (l.drop i) (s.drop i) = some r) ∧ Aside0 (Below w.heap.size w w'))
 case atStart => exact ⟨0, rfl, ⟨by omega⟩, HH, HB⟩
 case round =>
  clear HH HB; obtain ⟨i, rfl, HK, HH, HB⟩ := hrel; by_cases hlt : i < l.length
  ·have hlt2 : i < s.length := (by have := HN.out; omega)
   have hd1 : decide ((i : Int) < (l.length : Int)) = true := decide_eq_true (by omega); have H := HH.out; rw [List.drop_eq_getElem_cons hlt, List.drop_eq_getElem_cons hlt2] at H; simp only [tree_Same.eqs] at H; replace H := zo H; obtain ⟨b, hb, H⟩ := H
   have hrd : rd_T26 l (i : Int) = l[i] := (by simp [rd_T26, hlt])
   have hrs : rd_T26 s (i : Int) = s[i] := (by simp [rd_T26, hlt2])
   obtain ⟨ad, A3, c3, e, hx0, hx1, hx2, hx3, hl3, hC3⟩ := at_T26 HA.out (i : Int) (by omega) (by omega); obtain ⟨bd, A4, c4, e4, hy0, hy1, hy2, hy3, hl4, hC4⟩ := at_T26 HS.out (i : Int) (by omega) (by omega); rw [hrd] at hx0 hx1 hx2 hx3 hl3 hC3; rw [hrs] at hy0 hy1 hy2 hy3 hl4 hC4; rw [Int.toNat_natCast] at hx0 hx1 hx2 hx3 hy0 hy1 hy2 hy3
   cases e
   cases e4
   replace hx0 := zh HB hx0; replace hx1 := zh HB hx1; replace hx2 := zh HB hx2; replace hx3 := zh HB hx3; clear hrd hrs HH; have HC3 := Aside0.mk hC3; have HC4 := Aside0.mk hC4; generalize l[i] = x at *; generalize s[i] = y at *; have HL3 := Aside0.mk hl3; have HL4 := Aside0.mk hl4; clear hC3 hC4 hl3 hl4
   cases gk with
   | zero => exact absurd hlt (by have := HK.out; omega)
   | succ kq' =>
   have HY := Aside0.mk (And.intro hy0 (And.intro hy1 (And.intro hy2 hy3))); clear hy0 hy1 hy2 hy3
   go_upto_region 6 with (first | ((with_reducible refine zD 8 rfl ?_); refine zx 8 #[.int .i64 0, .int .i64 0, .string (⟨#[]⟩ : ByteArray), .slice none 0 0] 26 ?_; intro g1 hg w1 hbox hb; have BKg1 := Aside0.mk hbox; have GEg1 := (zq hg : Aside0 (w.heap.size ≤ g1)); obtain ⟨p0, p1, p2, p3⟩ := zc4 BKg1; obtain ⟨q0, q1, q2, q3⟩ := zz4 BKg1; replace HB := zB hb; clear hb hbox hg))
   generalize hw2 : (((w1.setCell ⟨g1, 0, none⟩ (.int .i64 x.f0)).setCell ⟨g1, 1, none⟩ (.int .i64 x.f1.f0)).setCell ⟨g1, 2, none⟩ (.string x.f1.f1)).setCell ⟨g1, 3, none⟩ (.slice A3 x.f2.length c3) = w2
   have BK1 : Aside0 (w2.heap[g1]? = some (.cells #[.int .i64 x.f0, .int .i64 x.f1.f0, .string x.f1.f1, .slice A3 x.f2.length c3] 26 (0, 0))) := (by rw [← hw2]; exact ⟨zw⟩)
   have HB2 : Aside0 (Below w.heap.size w w2) := (by rw [← hw2]; exact ⟨zb⟩)
   clear hw2 HB BKg1 p0 p1 p2 p3 q0 q1 q2 q3 hx0 hx1 hx2 hx3; have HB := HB2; clear HB2; obtain ⟨hy0, hy1, hy2, hy3⟩ := HY.out; replace hy0 := zh HB hy0; replace hy1 := zh HB hy1; replace hy2 := zh HB hy2; replace hy3 := zh HB hy3; clear HY
   go_upto_region 7 with (first | ((with_reducible refine zD 9 rfl ?_); refine zx 9 #[.int .i64 0, .int .i64 0, .string (⟨#[]⟩ : ByteArray), .slice none 0 0] 26 ?_; intro g2 hg w3 hbox hb; have BKg2 := Aside0.mk hbox; have GEg2 := (zq hg : Aside0 (w.heap.size ≤ g2)); obtain ⟨p0, p1, p2, p3⟩ := zc4 BKg2; obtain ⟨q0, q1, q2, q3⟩ := zz4 BKg2; have NB1 := (zl hg BK1 : Aside0 (g1 ≠ g2)); have NB2 := (zl' hg BK1 : Aside0 (g2 ≠ g1)); replace BK1 := zK BK1 hb; replace HB := zB hb; clear hb hbox hg))
   generalize hw4 : (((w3.setCell ⟨g2, 0, none⟩ (.int .i64 y.f0)).setCell ⟨g2, 1, none⟩ (.int .i64 y.f1.f0)).setCell ⟨g2, 2, none⟩ (.string y.f1.f1)).setCell ⟨g2, 3, none⟩ (.slice A4 y.f2.length c4) = w4
   have BK2 : Aside0 (w4.heap[g2]? = some (.cells #[.int .i64 y.f0, .int .i64 y.f1.f0, .string y.f1.f1, .slice A4 y.f2.length c4] 26 (0, 0))) := (by rw [← hw4]; exact ⟨zw⟩)
   have BK1' : Aside0 (w4.heap[g1]? = some (.cells #[.int .i64 x.f0, .int .i64 x.f1.f0, .string x.f1.f1, .slice A3 x.f2.length c3] 26 (0, 0))) := (by rw [← hw4]; exact ⟨zw⟩)
   have HB2 : Aside0 (Below w.heap.size w w4) := (by rw [← hw4]; exact ⟨zb⟩)
   clear hw4 HB BKg2 p0 p1 p2 p3 q0 q1 q2 q3 BK1 hy0 hy1 hy2 hy3; have HB := HB2; clear HB2; obtain ⟨g0, g3, g4, g5⟩ := zc4 BK1'; obtain ⟨k0, k3, k4, k5⟩ := zc4 BK2; have HCall := Aside0.mk (HIH.out x y A3 A4 c3 c4 b w4 HL3.out HL4.out (Kd.C_below HC3.out HB.out) (Kd.C_below HC4.out HB.out) hb.out); clear hb
   cases b with
   | true =>
    rw [if_pos rfl] at H; have HH2 := Aside0.mk H; clear H
    go_wp2_with (go_at_call 36; refine HCall.out.mono ?_; rintro e w5 ⟨rfl, hb⟩; replace HB := zB hb; clear hb)
    go_roundg kq'
    case measure => omega
    case rel => exact ⟨i + 1, by go_num, ⟨by have := HK.out; omega⟩, HH2, HB⟩
   | false =>
    replace H := zf H; obtain rfl := Option.some.inj H; clear H
    go_wp2_with (go_at_call 36; refine HCall.out.mono ?_; rintro e w5 ⟨rfl, hb⟩; replace HB := zB hb; clear hb)
    go_ret; exact ⟨rfl, HB.out⟩
  ·have hd1 : decide ((i : Int) < (l.length : Int)) = false := decide_eq_false (by omega); have H := HH.out; rw [List.drop_of_length_le (by have := HK.out; omega)] at H; simp only [tree_Same.eqs] at H; obtain rfl := Option.some.inj H; clear H; go_wp2_with fail; go_ret; exact ⟨rfl, HB.out⟩
set_option maxHeartbeats 8000000 in
set_option maxRecDepth 100000 in
theorem tree_Same.eqs_ne (l s : List (S26)) (A B : Option Addr) (ca cb : Nat) (w : World) (hn : l.length ≠ s.length) : Calls Try.prog 69 #[.slice A l.length ca, .slice B s.length cb, .func (.func 36) #[] #[]] w fun e w' => e = .returned (.bool false) ∧ Below w.heap.size w w' := by
 have d0 : ((l.length : Int) != (s.length : Int)) = true := (by simp; omega)
 have d0' : (l.length != s.length) = true := (by simp [hn])
 clear hn; go_enter Try.func69, Try.ntmps69; go_wp2_with fail; go_ret; exact ⟨rfl, Below.refl _ _⟩
set_option maxHeartbeats 8000000 in
set_option maxRecDepth 100000 in
theorem tree_Same.ok : ∀ m, tree_Same.Holds m
 | 0 => by intro a b A B ca cb r w _ _ _ _ h; simp [tree_Same.go] at h
 | m + 1 => by
  have IH := tree_Same.ok m; intro a b A B ca cb r w hca hcb hA hB h; have hu := Try.underlying26; have hu2 := Try.underlying23; have HA := Aside0.mk hA; have HS := Aside0.mk hB; have HIH := Aside0.mk IH; simp only [tree_Same.go] at h; clear hA hB IH; obtain ⟨a0, ⟨a1, a2⟩, al⟩ := a; obtain ⟨b0, ⟨b1, b2⟩, bl⟩ := b; simp only at h HA HS hca hcb ⊢; by_cases c1 : a0 = b0
  ·rw [if_pos c1] at h; subst c1; by_cases c2 : (a1 == b1 && a2.toList == b2.toList) = true
   ·rw [if_pos c2] at h
    obtain ⟨rfl, rfl⟩ : a1 = b1 ∧ a2 = b2 := by
     simp only [Bool.and_eq_true, beq_iff_eq] at c2; exact ⟨c2.1, tree_Same.bytes c2.2⟩
    clear c2; by_cases c3 : al.length = bl.length
    ·rw [if_pos c3] at h
     have HCall := fun w' [Ext w w'] => tree_Same.eqs_ok m HIH.out al bl A B ca cb r w' c3 hca hcb (zE HA) (zE HS) h
     have HC := Aside0.mk (@HCall); clear h c3 HCall; go_enter Try.func36, Try.ntmps36
     go_wp2_with (go_at_call 69; refine (HC.out _).mono ?_; rintro e w1 ⟨rfl, hb⟩; have HB := Aside0.mk hb; clear hb)
     go_ret; exact ⟨rfl, Cl.bstep (Ext.out) HB.out⟩
    ·rw [if_neg c3] at h; obtain rfl := Option.some.inj h; have HC := Aside0.mk (fun w' => tree_Same.eqs_ne al bl A B ca cb w' c3); clear h c3; go_enter Try.func36, Try.ntmps36
     go_wp2_with (go_at_call 69; refine (HC.out _).mono ?_; rintro e w1 ⟨rfl, hb⟩; have HB := Aside0.mk hb; clear hb)
     go_ret; exact ⟨rfl, Cl.bstep (Ext.out) HB.out⟩
   ·rw [if_neg c2] at h; obtain rfl := Option.some.inj h; clear h; by_cases c4 : a1 = b1
    ·subst c4
     have d3 : (a2.toList == b2.toList) = false := (by simpa using c2)
     clear c2; go_enter Try.func36, Try.ntmps36; go_wp2_with fail; go_ret; exact ⟨rfl, Ext.out⟩
    ·have d2 : (a1 == b1) = false := beq_eq_false_iff_ne.mpr c4; clear c2 c4; go_enter Try.func36, Try.ntmps36; go_wp2_with fail; go_ret; exact ⟨rfl, Ext.out⟩
  ·rw [if_neg c1] at h; obtain rfl := Option.some.inj h; have d1 : (a0 == b0) = false := beq_eq_false_iff_ne.mpr c1; clear c1 h; go_enter Try.func36, Try.ntmps36; go_wp2_with fail; go_ret; exact ⟨rfl, Ext.out⟩
theorem tree_Same.calls (k : Nat) (a0_0 : Int) (a0_1 : Int) (a0_2 : ByteArray) (A0_3 : Option Addr) (c0_3 : Nat) (l0_3 : List (S26)) (a1_0 : Int) (a1_1 : Int) (a1_2 : ByteArray) (A1_3 : Option Addr) (c1_3 : Nat) (l1_3 : List (S26)) (r : Bool) (w : World) (hr0_3 : Kd.C k26 w A0_3 l0_3.length l0_3) (hc0_3 : l0_3.length ≤ c0_3) (hr1_3 : Kd.C k26 w A1_3 l1_3.length l1_3) (hc1_3 : l1_3.length ≤ c1_3) (h : tree_Same.f k a0_0 a0_1 a0_2 l0_3 a1_0 a1_1 a1_2 l1_3 = some r) :
  Calls Try.prog 36 #[.agg #[.int .i64 a0_0, .int .i64 a0_1, .string a0_2, .slice A0_3 l0_3.length c0_3], .agg #[.int .i64 a1_0, .int .i64 a1_1, .string a1_2, .slice A1_3 l1_3.length c1_3]] w fun e w' => e = .returned (.bool r) ∧ Below w.heap.size w w' :=
 tree_Same.ok k ⟨a0_0, ⟨a0_1, a0_2⟩, l0_3⟩ ⟨a1_0, ⟨a1_1, a1_2⟩, l1_3⟩ A0_3 A1_3 c0_3 c1_3 r w hc0_3 hc1_3 hr0_3 hr1_3 h

end Go.Proofs.Ytnafnieocpkkhaa.P

namespace Go.Proofs.Ytnafnieocpkkhaa.P
open Go.RowKit Go.Proofs.YtnafnieocpkkhaaW.PrintWords Go.Proofs.YtnafnieocpkkhaaW.PrintLast Go.Proofs.YtnafnieocpkkhaaW.PrintMore
attribute [local go_sem] max2_int min2_int max_two min_two max_three min_three max_four min_four
set_option linter.unusedVariables false
set_option linter.unusedSimpArgs false

theorem tree_Changed.V_off {α : Type} {d : Kd α} {e base g n c : Nat} {W : World} {ok : Nat → Prop} {ad : Addr} {xs : List α} (h : Kd.V d e W base ok (.slice (some ad) n c) xs) (hok : ∀ k, ok k → k ≠ g) (hn : 0 < n) (hs : 0 < d.sz := by decide) : ad.block ≠ g :=
 Kd.foot_ne (fun W' hk => Kd.F_now (Kd.F_keep (Kd.V_F h) hk hok)) hn hs
theorem tree_Changed.blk {a : Addr} {g i : Nat} (h : a.block ≠ g) : (a.add i).block ≠ g := by unfold Addr.add; split <;> exact h
theorem tree_Changed.far4 {W : World} {g : Nat} {a : Addr} {u v0 v1 v2 v3 : Value} (h : a.block ≠ g) (hc : W.cell? a = some u) : ((((W.setCell ⟨g, 0, none⟩ v0).setCell ⟨g, 1, none⟩ v1).setCell ⟨g, 2, none⟩ v2).setCell ⟨g, 3, none⟩ v3).cell? a = some u := by
 have s : ∀ (W : World) (i : Nat) (v : Value), (W.setCell ⟨g, i, none⟩ v).cell? a = W.cell? a := fun W i v => World.cell?_setCell_far _ _ a _ (fun e => h e.symm)
 rw [s, s, s, s]; exact hc
mutual
def tree_Changed.j0 : Nat → Bool → Int → Int → ByteArray → List (S26) → Int → Int → ByteArray → List (S26) → Option (List Int × Bool × Int)
 | 0, _, _, _, _, _, _, _, _, _ => none
 | k + 1, x19, x248000, x248001, x248002, x248003, x249000, x249001, x249002, x249003 => if x19 = true then (some (([] : List Int), false, 4)) else ((tree_Same.f k x248000 x248001 x248002 x248003 x249000 x249001 x249002 x249003).bind fun t251 => (if t251 = true then (some (([] : List Int), false, 0)) else (tree_Changed.l0 k ([] : List Int) x248000 x248001 x248002 x248003 x249000 x249001 x249002 x249003)))
def tree_Changed.l0 : Nat → List Int → Int → Int → ByteArray → List (S26) → Int → Int → ByteArray → List (S26) → Option (List Int × Bool × Int)
 | 0, _, _, _, _, _, _, _, _, _ => none
 | k + 1, x7, x248000, x248001, x248002, x248003, x249000, x249001, x249002, x249003 => if x248000 = x249000 then (if x248000 = 1 then (tree_Changed.j2 k x7 false x248000 x248001 x248002 x248003 x249000 x249001 x249002 x249003) else (tree_Changed.j2 k x7 ((x248003.length : Int) == (x249003.length : Int)) x248000 x248001 x248002 x248003 x249000 x249001 x249002 x249003)) else (tree_Changed.j2 k x7 false x248000 x248001 x248002 x248003 x249000 x249001 x249002 x249003)
def tree_Changed.j2 : Nat → List Int → Bool → Int → Int → ByteArray → List (S26) → Int → Int → ByteArray → List (S26) → Option (List Int × Bool × Int)
 | 0, _, _, _, _, _, _, _, _, _, _ => none
 | k + 1, x7, x41, x248000, x248001, x248002, x248003, x249000, x249001, x249002, x249003 => if x41 = true then (tree_Changed.l1 k x7 0 0 x248003 (x248003.length : Int) 0 x248000 x248001 x248002 x248003 x249000 x249001 x249002 x249003) else (some (x7, true, 0))
def tree_Changed.l1 : Nat → List Int → Int → Int → List (S26) → Int → Int → Int → Int → ByteArray → List (S26) → Int → Int → ByteArray → List (S26) → Option (List Int × Bool × Int)
 | 0, _, _, _, _, _, _, _, _, _, _, _, _, _, _ => none
 | k + 1, x7, x8, x9, x43, x44, x45, x248000, x248001, x248002, x248003, x249000, x249001, x249002, x249003 => if x45 < x44 then (if 0 ≤ x45 then (if x45 < (x43.length : Int) then (if x45 < (x249003.length : Int) then ((tree_Same.f k ((rd_T26 x43 x45).f0) ((rd_T26 x43 x45).f1.f0) ((rd_T26 x43 x45).f1.f1) ((rd_T26 x43 x45).f2) ((rd_T26 x249003 x45).f0) ((rd_T26 x249003 x45).f1.f0) ((rd_T26 x249003 x45).f1.f1) ((rd_T26 x249003 x45).f2)).bind fun t255 => (if t255 = true then (tree_Changed.l1 k x7 x8 x9 x43 x44 (wrap64 (x45 + 1)) x248000 x248001 x248002 x248003 x249000 x249001 x249002 x249003) else (tree_Changed.l1 k x7 x45 (wrap64 (x9 + 1)) x43 x44 (wrap64 (x45 + 1)) x248000 x248001 x248002 x248003 x249000 x249001 x249002 x249003))) else (none)) else (none)) else (none)) else (if x9 = 1 then (if x7.length < 17592186044416 then (if 0 ≤ x8 then (if x8 < (x248003.length : Int) then (if x8 < (x249003.length : Int) then (tree_Changed.l0 k (x7 ++ [x8]) ((rd_T26 x248003 x8).f0) ((rd_T26 x248003 x8).f1.f0) ((rd_T26 x248003 x8).f1.f1) ((rd_T26 x248003 x8).f2) ((rd_T26 x249003 x8).f0) ((rd_T26 x249003 x8).f1.f0) ((rd_T26 x249003 x8).f1.f1) ((rd_T26 x249003 x8).f2)) else (none)) else (none)) else (none)) else (none)) else (some (x7, true, 0)))
end
def tree_Changed.f (k : Nat) (a0_0 : Int) (a0_1 : Int) (a0_2 : ByteArray) (l0_3 : List (S26)) (a1_0 : Int) (a1_1 : Int) (a1_2 : ByteArray) (l1_3 : List (S26)) : Option (List Int × Bool × Int) := (tree_IsFormed.f k a0_0 a0_1 a0_2 l0_3).bind fun t249 => (if t249 = true then ((tree_IsFormed.f k a1_0 a1_1 a1_2 l1_3).bind fun t250 => (tree_Changed.j0 k (!t250) a0_0 a0_1 a0_2 l0_3 a1_0 a1_1 a1_2 l1_3)) else (tree_Changed.j0 k true a0_0 a0_1 a0_2 l0_3 a1_0 a1_1 a1_2 l1_3))
def tree_Changed.T11 : Bool × List (List Nat × List Nat) := (true, [([], []), ([], []), ([1], [1]), ([], []), ([2, 3], [2, 3]), ([4], [4]), ([0, 5], [0, 5]), ([6], [6])])
def tree_Changed.B11 : List Nat := [0, 0, 2, 0, 14, 30, 63, 127]
theorem tree_Changed.tab11 : rtab .any (opsOf Try.f35 11) = tree_Changed.T11 := by kernel_rfl
theorem tree_Changed.bits11 : waitsOk tree_Changed.T11.2 tree_Changed.B11 = true := by kernel_rfl
def tree_Changed.T16 : Bool × List (List Nat × List Nat) := (true, [([], []), ([0], [0]), ([], []), ([1, 2], [1, 2]), ([3], [3]), ([], []), ([5], [5]), ([], []), ([6, 7], [6, 7]), ([8], [8]), ([4, 0, 1, 2, 3, 4], [4]), ([9, 10, 0, 1, 2, 3, 4, 5, 6, 7, 8, 9, 10], [9])])
def tree_Changed.B16 : List Nat := [0, 1, 0, 7, 15, 0, 32, 0, 224, 480, 31, 2047]
theorem tree_Changed.tab16 : rtab .any (opsOf Try.f35 16) = tree_Changed.T16 := by kernel_rfl
theorem tree_Changed.bits16 : waitsOk tree_Changed.T16.2 tree_Changed.B16 = true := by kernel_rfl
set_option maxHeartbeats 8000000 in
set_option maxRecDepth 100000 in
theorem tree_Changed.callsV (k : Nat) (a0_0 : Int) (a0_1 : Int) (a0_2 : ByteArray) (P0_3_ : Nat → Prop) (A0_3 : Option Addr) (c0_3 : Nat) (l0_3 : List (S26)) (a1_0 : Int) (a1_1 : Int) (a1_2 : ByteArray) (P1_3_ : Nat → Prop) (A1_3 : Option Addr) (c1_3 : Nat) (l1_3 : List (S26)) (r1 : List Int) (r2 : Bool) (r3 : Int) (w : World) (hs0_3 : Kd.V k26 26 w w.heap.size (fun k_ => P0_3_ k_) (.slice A0_3 l0_3.length c0_3) l0_3) (hs1_3 : Kd.V k26 26 w w.heap.size (fun k_ => P1_3_ k_) (.slice A1_3 l1_3.length c1_3) l1_3) (h : tree_Changed.f k a0_0 a0_1 a0_2 l0_3 a1_0 a1_1 a1_2 l1_3 = some (r1, r2, r3)) :
  Calls Try.prog 35 #[.agg #[.int .i64 a0_0, .int .i64 a0_1, .string a0_2, .slice A0_3 l0_3.length c0_3], .agg #[.int .i64 a1_0, .int .i64 a1_1, .string a1_2, .slice A1_3 l1_3.length c1_3]] w fun e w' => ∃ v0_ : Value, e = .returned (.tuple #[v0_, .bool r2, .int .i64 r3]) ∧ Kd.R (Kd.int .i64) 3 w' w.heap.size (fun k_ => (w.heap.size ≤ k_)) v0_ r1 ∧ Below w.heap.size w w' := by
 have hu26 := Try.underlying26; have HO0_3 := Aside0.mk (show Kd.V k26 26 w w.heap.size (fun k_ => ((P0_3_ k_ ∨ P1_3_ k_) ∨ w.heap.size ≤ k_)) (.slice A0_3 l0_3.length c0_3) l0_3 from Kd.V_mono hs0_3 (fun k_ hk => .inl (.inl hk))); have HO1_3 := Aside0.mk (show Kd.V k26 26 w w.heap.size (fun k_ => ((P0_3_ k_ ∨ P1_3_ k_) ∨ w.heap.size ≤ k_)) (.slice A1_3 l1_3.length c1_3) l1_3 from Kd.V_mono hs1_3 (fun k_ hk => .inl (.inr hk))); have HB := Aside0.mk (Below.refl w.heap.size w); have H : ((tree_IsFormed.f k a0_0 a0_1 a0_2 l0_3).bind fun t249 => (if t249 = true then ((tree_IsFormed.f k a1_0 a1_1 a1_2 l1_3).bind fun t250 => (tree_Changed.j0 k (!t250) a0_0 a0_1 a0_2 l0_3 a1_0 a1_1 a1_2 l1_3)) else (tree_Changed.j0 k true a0_0 a0_1 a0_2 l0_3 a1_0 a1_1 a1_2 l1_3))) = some (r1, r2, r3) := h; clear h; have HC3 := Aside0.mk H; clear H; go_enter Try.func35, Try.ntmps35
 go_upto_region 1 with (first | ((with_reducible refine zD 2 rfl ?_); (try (refine gate_guard (by rfl) ?_; dsimp only)); refine zx 2 #[.int .i64 a0_0, .int .i64 a0_1, .string a0_2, .slice A0_3 l0_3.length c0_3] 26 ?_; intro gb247 hg w4 hbox hb; replace HO0_3 := Aside0.mk (Kd.V_below (Kd.V_elderB (zV HO0_3) gb247 (Nat.le_of_eq hg.symm)) hb); replace HO1_3 := Aside0.mk (Kd.V_below (Kd.V_elderB (zV HO1_3) gb247 (Nat.le_of_eq hg.symm)) hb); have BK247 := Aside0.mk (hbox); have GW247 := (zq hg : Aside0 (w.heap.size ≤ gb247)); have GE247 := GW247; replace HB := (zB hb); clear hb hbox hg) | ((with_reducible refine zD 3 rfl ?_); (try (refine gate_guard (by rfl) ?_; dsimp only)); refine zx 3 #[.int .i64 a1_0, .int .i64 a1_1, .string a1_2, .slice A1_3 l1_3.length c1_3] 26 ?_; intro gb248 hg w5 hbox hb; replace HO0_3 := Aside0.mk (Kd.V_below (Kd.V_elderB (zV HO0_3) gb248 (Nat.le_of_eq hg.symm)) hb); replace HO1_3 := Aside0.mk (Kd.V_below (Kd.V_elderB (zV HO1_3) gb248 (Nat.le_of_eq hg.symm)) hb); have BK248 := Aside0.mk (hbox); have GW248 := (zq hg : Aside0 (w.heap.size ≤ gb248)); have GE248 := GW248; replace HB := (zB hb); have NB247_248 := (zl hg BK247 : Aside0 (gb247 ≠ gb248)); have NB248_247 := (zl' hg BK247 : Aside0 (gb248 ≠ gb247)); replace BK247 := (zK BK247 hb); clear hb hbox hg))
 (try simp only [Act.put, List.setIfInBounds_toArray, List.set_cons_zero, List.set_cons_succ])
 go_cut [19] (fun v19 wc => ∃ (kq : Nat) (x19_2 : Bool), v19 = .bool x19_2 ∧ Aside0 (tree_Changed.j0 kq x19_2 a0_0 a0_1 a0_2 l0_3 a1_0 a1_1 a1_2 l1_3 = some (r1, r2, r3)) ∧ Aside0 (kq ≤ k) ∧ Aside0 (Kd.V k26 26 wc w.heap.size (fun k_ => ((P0_3_ k_ ∨ P1_3_ k_) ∨ w.heap.size ≤ k_) ∧ k_ ≠ gb247 ∧ k_ ≠ gb248) (.slice A0_3 l0_3.length c0_3) l0_3) ∧ Aside0 (Kd.V k26 26 wc w.heap.size (fun k_ => ((P0_3_ k_ ∨ P1_3_ k_) ∨ w.heap.size ≤ k_) ∧ k_ ≠ gb247 ∧ k_ ≠ gb248) (.slice A1_3 l1_3.length c1_3) l1_3) ∧ Aside0 (wc.heap[gb247]? = some (.cells #[.int .i64 a0_0, .int .i64 a0_1, .string a0_2, (.slice A0_3 l0_3.length c0_3)] 26 (0, 0))) ∧ Aside0 (wc.heap[gb248]? = some (.cells #[.int .i64 a1_0, .int .i64 a1_1, .string a1_2, (.slice A1_3 l1_3.length c1_3)] 26 (0, 0))) ∧ Aside0 (Below w.heap.size w wc))
 case first =>
  have H := HC3.out; clear HC3; replace H := zo H; obtain ⟨t249, A6, H⟩ := H; by_cases c7 : t249 = true
  ·subst c7; rw [if_pos rfl] at H; replace H := zo H; obtain ⟨t250, A8, H⟩ := H; have H' := Aside0.mk H; clear H; have hnb9 := NB247_248.out; have hnc9 := NB248_247.out; obtain ⟨hcz10_0, hcz10_1, hcz10_2, hcz10_3⟩ := zc4 BK247; obtain ⟨hfz10_0, hfz10_1, hfz10_2, hfz10_3⟩ := zz4 BK247
   go_wp2_with (first | ((with_reducible refine zG 30 rfl ?_); refine zg 13 Try.func30 ((tree_IsFormed.calls k a0_0 a0_1 a0_2 _ _ l0_3 true _ ?side1 ?side2 A6.out).mono ?_); (case side1 => exact zE' (Kd.V_reads' HO0_3.out).2.2); (case side2 => exact (Kd.V_reads' HO0_3.out).2.1); rintro e w11 ⟨rfl, hb⟩; refine ⟨_, rfl, ?_⟩; replace HO0_3 := (zVb HO0_3 hb); replace HO1_3 := (zVb HO1_3 hb); replace BK247 := (zK BK247 hb); replace BK248 := (zK BK248 hb); replace HB := (zB hb); (try clear hb); (try clear hb2); (try clear hk); (try clear hi); obtain ⟨hcz12_0, hcz12_1, hcz12_2, hcz12_3⟩ := zc4 BK248; obtain ⟨hfz12_0, hfz12_1, hfz12_2, hfz12_3⟩ := zz4 BK248) | (go_at_call 30; (with_reducible refine (tree_IsFormed.calls k a1_0 a1_1 a1_2 _ _ l1_3 t250 _ ?side1 ?side2 A8.out).mono ?_); (case side1 => exact zE' (Kd.V_reads' HO1_3.out).2.2); (case side2 => exact (Kd.V_reads' HO1_3.out).2.1); rintro e w13 ⟨rfl, hb⟩; replace HO0_3 := (zVb HO0_3 hb); replace HO1_3 := (zVb HO1_3 hb); replace BK247 := (zK BK247 hb); replace BK248 := (zK BK248 hb); replace HB := (zB hb); (try clear hb); (try clear hb2); (try clear hk); (try clear hi)))
   go_meet
   case rel => exact ⟨_, (!t250), zs, H', ⟨by first | omega | exact Nat.le_refl _⟩, ⟨by (with_reducible repeat (first | apply Kd.V_alloc | apply Kd.V_drewN | apply Kd.V_drew)); exact Kd.V_mono HO0_3.out (fun _ hk => ⟨hk.1.1, ⟨hk.1.2, hk.2⟩⟩)⟩, ⟨by (with_reducible repeat (first | apply Kd.V_alloc | apply Kd.V_drewN | apply Kd.V_drew)); exact Kd.V_mono HO1_3.out (fun _ hk => ⟨hk.1.1, ⟨hk.1.2, hk.2⟩⟩)⟩, (zA BK247), (zA BK248), ⟨zb⟩⟩
  ·replace c7 := Bool.eq_false_iff.mpr c7; subst c7; replace H := zf H; have H' := Aside0.mk H; clear H; have hnb14 := NB247_248.out; have hnc14 := NB248_247.out; obtain ⟨hcz15_0, hcz15_1, hcz15_2, hcz15_3⟩ := zc4 BK247; obtain ⟨hfz15_0, hfz15_1, hfz15_2, hfz15_3⟩ := zz4 BK247
   go_wp2_with (first | ((with_reducible refine zG 30 rfl ?_); refine zg 13 Try.func30 ((tree_IsFormed.calls k a0_0 a0_1 a0_2 _ _ l0_3 false _ ?side1 ?side2 A6.out).mono ?_); (case side1 => exact zE' (Kd.V_reads' HO0_3.out).2.2); (case side2 => exact (Kd.V_reads' HO0_3.out).2.1); rintro e w16 ⟨rfl, hb⟩; refine ⟨_, rfl, ?_⟩; replace HO0_3 := (zVb HO0_3 hb); replace HO1_3 := (zVb HO1_3 hb); replace BK247 := (zK BK247 hb); replace BK248 := (zK BK248 hb); replace HB := (zB hb); (try clear hb); (try clear hb2); (try clear hk); (try clear hi)))
   go_meet
   case rel => exact ⟨_, (true), zs, H', ⟨by first | omega | exact Nat.le_refl _⟩, ⟨by (with_reducible repeat (first | apply Kd.V_alloc | apply Kd.V_drewN | apply Kd.V_drew)); exact Kd.V_mono HO0_3.out (fun _ hk => ⟨hk.1.1, ⟨hk.1.2, hk.2⟩⟩)⟩, ⟨by (with_reducible repeat (first | apply Kd.V_alloc | apply Kd.V_drewN | apply Kd.V_drew)); exact Kd.V_mono HO1_3.out (fun _ hk => ⟨hk.1.1, ⟨hk.1.2, hk.2⟩⟩)⟩, (zA BK247), (zA BK248), ⟨zb⟩⟩
 case rest =>
  clear HC3; obtain ⟨kq, x19_2, rfl, HA, HJ2, HO_248003, HO_249003, BK247, BK248, HB⟩ := hcut
  cases kq with
  | zero => exact absurd HA.out (by simp [tree_Changed.j0])
  | succ kj2 =>
   have H := HA.out; clear HA; simp only [tree_Changed.j0] at H; by_cases c17 : x19_2 = true
   ·subst c17; rw [if_pos rfl] at H; simp only [Option.some.injEq, Prod.mk.injEq] at H; obtain ⟨rfl, rfl, rfl⟩ := H; go_wp2
    go_ret3
    exact ⟨_, zr, by first | exact Kd.R_nil _ _ _ _ _ | exact Kd.N_nil _ _ _ _ _ | exact Kd.V_nil _ _ _ _ _ | exact Kd.Q_nil _ _ _ _ _ | exact Kd.S_nil _ _ _ _ _, zb⟩
   ·replace c17 := Bool.eq_false_iff.mpr c17; subst c17; replace H := zf H; replace H := zo H; obtain ⟨t251, A18, H⟩ := H; by_cases c19 : t251 = true
    ·subst c19; rw [if_pos rfl] at H; simp only [Option.some.injEq, Prod.mk.injEq] at H; obtain ⟨rfl, rfl, rfl⟩ := H; have hnb20 := NB247_248.out; have hnc20 := NB248_247.out; obtain ⟨hcz21_0, hcz21_1, hcz21_2, hcz21_3⟩ := zc4 BK247; obtain ⟨hfz21_0, hfz21_1, hfz21_2, hfz21_3⟩ := zz4 BK247; obtain ⟨hcz22_0, hcz22_1, hcz22_2, hcz22_3⟩ := zc4 BK248; obtain ⟨hfz22_0, hfz22_1, hfz22_2, hfz22_3⟩ := zz4 BK248
     go_wp2_with (first | ((with_reducible refine zG 36 rfl ?_); refine zg 22 Try.func36 ((tree_Same.calls kj2 a0_0 a0_1 a0_2 _ _ l0_3 a1_0 a1_1 a1_2 _ _ l1_3 true _ ?side1 ?side2 ?side3 ?side4 A18.out).mono ?_); (case side1 => exact zE' (Kd.V_reads' HO_248003.out).2.2); (case side2 => exact (Kd.V_reads' HO_248003.out).2.1); (case side3 => exact zE' (Kd.V_reads' HO_249003.out).2.2); (case side4 => exact (Kd.V_reads' HO_249003.out).2.1); rintro e w23 ⟨rfl, hb⟩; refine ⟨_, rfl, ?_⟩; replace HO_248003 := (zVb HO_248003 hb); replace HO_249003 := (zVb HO_249003 hb); replace BK247 := (zK BK247 hb); replace BK248 := (zK BK248 hb); replace HB := (zB hb); (try clear hb); (try clear hb2); (try clear hk); (try clear hi)))
     go_ret3
     exact ⟨_, zr, by first | exact Kd.R_nil _ _ _ _ _ | exact Kd.N_nil _ _ _ _ _ | exact Kd.V_nil _ _ _ _ _ | exact Kd.Q_nil _ _ _ _ _ | exact Kd.S_nil _ _ _ _ _, zb⟩
    ·replace c19 := Bool.eq_false_iff.mpr c19; subst c19; replace H := zf H; have H' := Aside0.mk H; clear H; have hnb24 := NB247_248.out; have hnc24 := NB248_247.out; obtain ⟨hcz25_0, hcz25_1, hcz25_2, hcz25_3⟩ := zc4 BK247; obtain ⟨hfz25_0, hfz25_1, hfz25_2, hfz25_3⟩ := zz4 BK247; obtain ⟨hcz26_0, hcz26_1, hcz26_2, hcz26_3⟩ := zc4 BK248; obtain ⟨hfz26_0, hfz26_1, hfz26_2, hfz26_3⟩ := zz4 BK248
     go_wp2_with (first | ((with_reducible refine zG 36 rfl ?_); refine zg 22 Try.func36 ((tree_Same.calls kj2 a0_0 a0_1 a0_2 _ _ l0_3 a1_0 a1_1 a1_2 _ _ l1_3 false _ ?side1 ?side2 ?side3 ?side4 A18.out).mono ?_); (case side1 => exact zE' (Kd.V_reads' HO_248003.out).2.2); (case side2 => exact (Kd.V_reads' HO_248003.out).2.1); (case side3 => exact zE' (Kd.V_reads' HO_249003.out).2.2); (case side4 => exact (Kd.V_reads' HO_249003.out).2.1); rintro e w27 ⟨rfl, hb⟩; refine ⟨_, rfl, ?_⟩; replace HO_248003 := (zVb HO_248003 hb); replace HO_249003 := (zVb HO_249003 hb); replace BK247 := (zK BK247 hb); replace BK248 := (zK BK248 hb); replace HB := (zB hb); (try clear hb); (try clear hb2); (try clear hk); (try clear hi)))
     go_loopg [7] kj2 (fun kq v7 w' => ∃ (x7_2 : List Int) (x248000_2 : Int) (x248001_2 : Int) (x248002_2 : ByteArray) (x248003_2 : List (S26)) (x249000_2 : Int) (x249001_2 : Int) (x249002_2 : ByteArray) (x249003_2 : List (S26)) (u248003 : Value) (u249003 : Value), Aside0 (tree_Changed.l0 kq x7_2 x248000_2 x248001_2 x248002_2 x248003_2 x249000_2 x249001_2 x249002_2 x249003_2 = some (r1, r2, r3)) ∧ Aside0 (kq ≤ kj2) ∧ Aside0 (Kd.R (Kd.int .i64) 3 w' w.heap.size (fun k_ => (w.heap.size ≤ k_)) v7 x7_2) ∧ Aside0 (Kd.V k26 26 w' w.heap.size (fun k_ => ((P0_3_ k_ ∨ P1_3_ k_) ∨ w.heap.size ≤ k_) ∧ some k_ ≠ (v7 : Value).ownBlock ∧ k_ ≠ gb247 ∧ k_ ≠ gb248) u248003 x248003_2) ∧ Aside0 (Kd.V k26 26 w' w.heap.size (fun k_ => ((P0_3_ k_ ∨ P1_3_ k_) ∨ w.heap.size ≤ k_) ∧ some k_ ≠ (v7 : Value).ownBlock ∧ k_ ≠ gb247 ∧ k_ ≠ gb248) u249003 x249003_2) ∧ Aside0 (w'.heap[gb247]? = some (.cells #[.int .i64 x248000_2, .int .i64 x248001_2, .string x248002_2, u248003] 26 (0, 0))) ∧ Aside0 (w'.heap[gb248]? = some (.cells #[.int .i64 x249000_2, .int .i64 x249001_2, .string x249002_2, u249003] 26 (0, 0))) ∧ Aside0 (Below w.heap.size w w'))
     case atStart => exact ⟨(([] : List Int)), (a0_0), (a0_1), (a0_2), (l0_3), (a1_0), (a1_1), (a1_2), (l1_3), (.slice A0_3 l0_3.length c0_3), (.slice A1_3 l1_3.length c1_3), H', ⟨Nat.le_refl _⟩, ⟨by first | exact Kd.R_nil _ _ _ _ _ | exact Kd.N_nil _ _ _ _ _ | exact Kd.V_nil _ _ _ _ _ | exact Kd.Q_nil _ _ _ _ _ | exact Kd.S_nil _ _ _ _ _⟩, ⟨by (with_reducible repeat (first | apply Kd.V_alloc | apply Kd.V_drewN | apply Kd.V_drew)); exact Kd.V_mono HO_248003.out (fun _ hk => ⟨hk.1, ⟨(by simp [Value.ownBlock]), ⟨hk.2.1, hk.2.2⟩⟩⟩)⟩, ⟨by (with_reducible repeat (first | apply Kd.V_alloc | apply Kd.V_drewN | apply Kd.V_drew)); exact Kd.V_mono HO_249003.out (fun _ hk => ⟨hk.1, ⟨(by simp [Value.ownBlock]), ⟨hk.2.1, hk.2.2⟩⟩⟩)⟩, (zA BK247), (zA BK248), ⟨zb⟩⟩
     case round =>
      clear H'; obtain ⟨x7_2, x248000_2, x248001_2, x248002_2, x248003_2, x249000_2, x249001_2, x249002_2, x249003_2, u248003, u249003, HA, HK2, HO_7, HO_248003, HO_249003, BK247, BK248, HB⟩ := hrel
      cases gk with
      | zero => exact absurd HA.out (by simp [tree_Changed.l0])
      | succ k2 =>
       have H := HA.out; clear HA; simp only [tree_Changed.l0] at H; have HC28 := Aside0.mk H; clear H
       go_upto_region 6 with (fail)
       go_cut [41] (fun v41 wc => ∃ (kq : Nat) (x41_27 : Bool), v41 = .bool x41_27 ∧ Aside0 (tree_Changed.j2 kq x7_2 x41_27 x248000_2 x248001_2 x248002_2 x248003_2 x249000_2 x249001_2 x249002_2 x249003_2 = some (r1, r2, r3)) ∧ Aside0 (kq ≤ k2) ∧ Aside0 (Kd.R (Kd.int .i64) 3 wc w.heap.size (fun k_ => (w.heap.size ≤ k_)) u7 x7_2) ∧ Aside0 (Kd.V k26 26 wc w.heap.size (fun k_ => ((P0_3_ k_ ∨ P1_3_ k_) ∨ w.heap.size ≤ k_) ∧ some k_ ≠ (u7 : Value).ownBlock ∧ k_ ≠ gb247 ∧ k_ ≠ gb248) u248003 x248003_2) ∧ Aside0 (Kd.V k26 26 wc w.heap.size (fun k_ => ((P0_3_ k_ ∨ P1_3_ k_) ∨ w.heap.size ≤ k_) ∧ some k_ ≠ (u7 : Value).ownBlock ∧ k_ ≠ gb247 ∧ k_ ≠ gb248) u249003 x249003_2) ∧ Aside0 (wc.heap[gb247]? = some (.cells #[.int .i64 x248000_2, .int .i64 x248001_2, .string x248002_2, u248003] 26 (0, 0))) ∧ Aside0 (wc.heap[gb248]? = some (.cells #[.int .i64 x249000_2, .int .i64 x249001_2, .string x249002_2, u249003] 26 (0, 0))) ∧ Aside0 (Below w.heap.size w wc))
       case first =>
        have H := HC28.out; clear HC28; by_cases c29 : x248000_2 = x249000_2
        ·rw [if_pos c29] at H; have c29b0 : (x248000_2 == x249000_2) = true := beq_iff_eq.mpr c29; have c29b1 : (x248000_2 != x249000_2) = false := bne_eq_false_iff_eq.mpr c29; clear c29
         (first | rw [c29b0] | (simp only [i64_w, i32_w]; rw [c29b0]) | skip)
         by_cases c30 : x248000_2 = 1
         ·rw [if_pos c30] at H; have c30b0 : (x248000_2 == 1) = true := beq_iff_eq.mpr c30; have c30b1 : (x248000_2 != 1) = false := bne_eq_false_iff_eq.mpr c30; clear c30; have H' := Aside0.mk H; clear H; have hnb31 := NB247_248.out; have hnc31 := NB248_247.out; obtain ⟨hcz32_0, hcz32_1, hcz32_2, hcz32_3⟩ := zc4 BK247; obtain ⟨hfz32_0, hfz32_1, hfz32_2, hfz32_3⟩ := zz4 BK247; obtain ⟨hcz33_0, hcz33_1, hcz33_2, hcz33_3⟩ := zc4 BK248; obtain ⟨hfz33_0, hfz33_1, hfz33_2, hfz33_3⟩ := zz4 BK248; go_wp2
          go_meet
          case rel => exact ⟨_, (false), zs, H', ⟨by have := HJ2.out; have := HK2.out; first | omega | exact Nat.le_refl _⟩, ⟨by (with_reducible repeat (first | apply Kd.R_alloc | apply Kd.R_drewN | apply Kd.R_drew)); exact HO_7.out⟩, ⟨by (with_reducible repeat (first | apply Kd.V_alloc | apply Kd.V_drewN | apply Kd.V_drew)); exact HO_248003.out⟩, ⟨by (with_reducible repeat (first | apply Kd.V_alloc | apply Kd.V_drewN | apply Kd.V_drew)); exact HO_249003.out⟩, (zA BK247), (zA BK248), ⟨zb⟩⟩
         ·rw [if_neg c30] at H; have c30b0 : (x248000_2 == 1) = false := beq_eq_false_iff_ne.mpr c30; have c30b1 : (x248000_2 != 1) = true := bne_iff_ne.mpr c30; have H' := Aside0.mk H; clear H; have hnb34 := NB247_248.out; have hnc34 := NB248_247.out; obtain ⟨hcz35_0, hcz35_1, hcz35_2, hcz35_3⟩ := zc4 BK247; obtain ⟨hfz35_0, hfz35_1, hfz35_2, hfz35_3⟩ := zz4 BK247; obtain ⟨hcz36_0, hcz36_1, hcz36_2, hcz36_3⟩ := zc4 BK248; obtain ⟨hfz36_0, hfz36_1, hfz36_2, hfz36_3⟩ := zz4 BK248; obtain ⟨Ao37, co37, eo37⟩ := Kd.V_slice HO_248003.out; subst eo37; obtain ⟨Ao38, co38, eo38⟩ := Kd.V_slice HO_249003.out; subst eo38; go_wp2
          go_meet
          case rel => exact ⟨_, (((x248003_2.length : Int) == (x249003_2.length : Int))), zs, H', ⟨by have := HJ2.out; have := HK2.out; first | omega | exact Nat.le_refl _⟩, ⟨by (with_reducible repeat (first | apply Kd.R_alloc | apply Kd.R_drewN | apply Kd.R_drew)); exact HO_7.out⟩, ⟨by (with_reducible repeat (first | apply Kd.V_alloc | apply Kd.V_drewN | apply Kd.V_drew)); exact HO_248003.out⟩, ⟨by (with_reducible repeat (first | apply Kd.V_alloc | apply Kd.V_drewN | apply Kd.V_drew)); exact HO_249003.out⟩, (zA BK247), (zA BK248), ⟨zb⟩⟩
        ·rw [if_neg c29] at H; have c29b0 : (x248000_2 == x249000_2) = false := beq_eq_false_iff_ne.mpr c29; have c29b1 : (x248000_2 != x249000_2) = true := bne_iff_ne.mpr c29
         (first | rw [c29b0] | (simp only [i64_w, i32_w]; rw [c29b0]) | skip)
         have H' := Aside0.mk H; clear H; have hnb39 := NB247_248.out; have hnc39 := NB248_247.out; obtain ⟨hcz40_0, hcz40_1, hcz40_2, hcz40_3⟩ := zc4 BK247; obtain ⟨hfz40_0, hfz40_1, hfz40_2, hfz40_3⟩ := zz4 BK247; obtain ⟨hcz41_0, hcz41_1, hcz41_2, hcz41_3⟩ := zc4 BK248; obtain ⟨hfz41_0, hfz41_1, hfz41_2, hfz41_3⟩ := zz4 BK248; go_wp2
         go_meet
         case rel => exact ⟨_, (false), zs, H', ⟨by have := HJ2.out; have := HK2.out; first | omega | exact Nat.le_refl _⟩, ⟨by (with_reducible repeat (first | apply Kd.R_alloc | apply Kd.R_drewN | apply Kd.R_drew)); exact HO_7.out⟩, ⟨by (with_reducible repeat (first | apply Kd.V_alloc | apply Kd.V_drewN | apply Kd.V_drew)); exact HO_248003.out⟩, ⟨by (with_reducible repeat (first | apply Kd.V_alloc | apply Kd.V_drewN | apply Kd.V_drew)); exact HO_249003.out⟩, (zA BK247), (zA BK248), ⟨zb⟩⟩
       case rest =>
        clear HC28; obtain ⟨kq, x41_27, rfl, HA, HJ27, HO_7, HO_248003, HO_249003, BK247, BK248, HB⟩ := hcut
        cases kq with
        | zero => exact absurd HA.out (by simp [tree_Changed.j2])
        | succ kj27 =>
         have H := HA.out; clear HA; simp only [tree_Changed.j2] at H; by_cases c42 : x41_27 = true
         ·subst c42; rw [if_pos rfl] at H; have H' := Aside0.mk H; clear H; have hnb43 := NB247_248.out; have hnc43 := NB248_247.out; obtain ⟨hcz44_0, hcz44_1, hcz44_2, hcz44_3⟩ := zc4 BK247; obtain ⟨hfz44_0, hfz44_1, hfz44_2, hfz44_3⟩ := zz4 BK247; obtain ⟨Ao45, co45, eo45⟩ := Kd.V_slice HO_248003.out; subst eo45; go_wp2
          go_loopg [8, 9, 45] kj27 (fun kq v8 v9 v45 w' => ∃ (x8_4 : Int) (x9_4 : Int) (x45_4 : Int), v8 = .int .i64 x8_4 ∧ v9 = .int .i64 x9_4 ∧ v45 = .int .i64 x45_4 ∧ Aside0 (tree_Changed.l1 kq x7_2 x8_4 x9_4 x248003_2 (x248003_2.length : Int) x45_4 x248000_2 x248001_2 x248002_2 x248003_2 x249000_2 x249001_2 x249002_2 x249003_2 = some (r1, r2, r3)) ∧ Aside0 (kq ≤ kj27) ∧ Aside0 (Kd.R (Kd.int .i64) 3 w' w.heap.size (fun k_ => (w.heap.size ≤ k_)) u7 x7_2) ∧ Aside0 (Kd.V k26 26 w' w.heap.size (fun k_ => ((P0_3_ k_ ∨ P1_3_ k_) ∨ w.heap.size ≤ k_) ∧ some k_ ≠ (u7 : Value).ownBlock ∧ k_ ≠ gb247 ∧ k_ ≠ gb248) (.slice Ao45 x248003_2.length co45) x248003_2) ∧ Aside0 (Kd.V k26 26 w' w.heap.size (fun k_ => ((P0_3_ k_ ∨ P1_3_ k_) ∨ w.heap.size ≤ k_) ∧ some k_ ≠ (u7 : Value).ownBlock ∧ k_ ≠ gb247 ∧ k_ ≠ gb248) (.slice Ao45 x248003_2.length co45) x248003_2) ∧ Aside0 (Kd.V k26 26 w' w.heap.size (fun k_ => ((P0_3_ k_ ∨ P1_3_ k_) ∨ w.heap.size ≤ k_) ∧ some k_ ≠ (u7 : Value).ownBlock ∧ k_ ≠ gb247 ∧ k_ ≠ gb248) u249003 x249003_2) ∧ Aside0 (w'.heap[gb247]? = some (.cells #[.int .i64 x248000_2, .int .i64 x248001_2, .string x248002_2, (.slice Ao45 x248003_2.length co45)] 26 (0, 0))) ∧ Aside0 (w'.heap[gb248]? = some (.cells #[.int .i64 x249000_2, .int .i64 x249001_2, .string x249002_2, u249003] 26 (0, 0))) ∧ Aside0 (Below w.heap.size w w'))
          case atStart => exact ⟨(0), (0), (0), zs, zs, zs, H', ⟨Nat.le_refl _⟩, ⟨by (with_reducible repeat (first | apply Kd.R_alloc | apply Kd.R_drewN | apply Kd.R_drew)); exact HO_7.out⟩, ⟨by (with_reducible repeat (first | apply Kd.V_alloc | apply Kd.V_drewN | apply Kd.V_drew)); exact HO_248003.out⟩, ⟨by (with_reducible repeat (first | apply Kd.V_alloc | apply Kd.V_drewN | apply Kd.V_drew)); exact HO_248003.out⟩, ⟨by (with_reducible repeat (first | apply Kd.V_alloc | apply Kd.V_drewN | apply Kd.V_drew)); exact HO_249003.out⟩, (zA BK247), (zA BK248), ⟨zb⟩⟩
          case round =>
           clear H'; obtain ⟨x8_4, x9_4, x45_4, rfl, rfl, rfl, HA, HK4, HO_7, HO_43, HO_248003, HO_249003, BK247, BK248, HB⟩ := hrel
           cases gk with
           | zero => exact absurd HA.out (by simp [tree_Changed.l1])
           | succ k4 =>
            have H := HA.out; clear HA; simp only [tree_Changed.l1] at H; by_cases c46 : x45_4 < (x248003_2.length : Int)
            ·rw [if_pos c46] at H; have c46b0 := decide_eq_true c46; clear c46; replace H := zi1 H; obtain ⟨c47b0, H⟩ := H; replace H := zi1 H; obtain ⟨c48b0, H⟩ := H; replace H := zi1 H; obtain ⟨c49b0, H⟩ := H; replace H := zo H; obtain ⟨t255, A50, H⟩ := H; by_cases c51 : t255 = true
             ·subst c51; rw [if_pos rfl] at H; have H' := Aside0.mk H; clear H; have p252 : 0 ≤ (x45_4 : Int) := zt; have q252 : x45_4 < (x248003_2.length : Int) := zt; obtain ⟨ad252, A252_3, c252_3, e252, hx252_0, hx252_1, hx252_2, hx252_3, hl252_3, hi252_3⟩ := at_T26 (Kd.V_reads' HO_43.out).2.2 x45_4 p252 q252
              cases e252
              obtain ⟨ce252, hce252, hMe252, hcc252⟩ := Kd.V_get HO_43.out z26 x45_4 p252 (by first | exact q252 | exact zt | (have e_ := (Kd.V_reads' HO_43.out).1; omega)); obtain ⟨ua252_3, uc252_3, rfl, ul252_3, ge252_3⟩ := k26_openF hMe252; have hv252_3 := hcc252 3 _ rfl; rw [add_field _ _ 3 (by omega)] at hv252_3; replace hv252_3 := Option.some.inj (hv252_3.symm.trans hx252_3); injection hv252_3 with hva_ hvn_ hvc_; rw [hva_] at ge252_3; rw [hvc_] at ul252_3; have HL252_3 := Aside0.mk (show Kd.V k26 26 _ w.heap.size _ _ ((rd_T26 x248003_2 x45_4).f2) from Kd.V_mk ul252_3 ge252_3); clear hva_ hvn_ hvc_ ge252_3 ul252_3 hcc252 hce252; have HR252_3 := Aside0.mk hi252_3; have HC252_3 := Aside0.mk hl252_3; clear hi252_3 hl252_3; replace p252 := eq_true p252; replace q252 := eq_true q252
              try go_wp2_with (first | ((with_reducible refine zD 11 rfl ?_); (try (refine gate_guard (by rfl) ?_; dsimp only)); refine zx 11 #[.int .i64 0, .int .i64 0, .string (⟨#[]⟩ : ByteArray), .slice none 0 0] 26 ?_; intro gb253 hg w52 hbox hb; replace HO_7 := (zRb HO_7 hb); replace HO_43 := Aside0.mk (Kd.V_below (Kd.V_elderB (zV HO_43) gb253 (Nat.le_of_eq hg.symm)) hb); replace HO_248003 := Aside0.mk (Kd.V_below (Kd.V_elderB (zV HO_248003) gb253 (Nat.le_of_eq hg.symm)) hb); replace HO_249003 := Aside0.mk (Kd.V_below (Kd.V_elderB (zV HO_249003) gb253 (Nat.le_of_eq hg.symm)) hb); replace HL252_3 := Aside0.mk (Kd.V_below (Kd.V_elderB (zV HL252_3) gb253 (Nat.le_of_eq hg.symm)) hb); replace HR252_3 := Aside0.mk (Kd.C_below (zE HR252_3) hb); have BK253 := Aside0.mk (hbox); have GW253 := (zq hg : Aside0 (w.heap.size ≤ gb253)); have GE253 := GW253; replace HB := (zB hb); have NB247_253 := (zl hg BK247 : Aside0 (gb247 ≠ gb253)); have NB253_247 := (zl' hg BK247 : Aside0 (gb253 ≠ gb247)); replace BK247 := (zK BK247 hb); have NB248_253 := (zl hg BK248 : Aside0 (gb248 ≠ gb253)); have NB253_248 := (zl' hg BK248 : Aside0 (gb253 ≠ gb248)); replace BK248 := (zK BK248 hb); clear hb hbox hg; have hnb53 := NB253_247.out; have hnc53 := NB247_253.out; have hnb54 := NB253_248.out; have hnc54 := NB248_253.out; obtain ⟨hcz55_0, hcz55_1, hcz55_2, hcz55_3⟩ := zc4 BK253; obtain ⟨hfz55_0, hfz55_1, hfz55_2, hfz55_3⟩ := zz4 BK253))
              have n0_ : Aside0 (Kd.R (Kd.int .i64) 3 ((((w52.setCell ⟨gb253, 0, none⟩ (.int .i64 ((rd_T26 x248003_2 x45_4).f0))).setCell ⟨gb253, 1, none⟩ (.int .i64 ((rd_T26 x248003_2 x45_4).f1.f0))).setCell ⟨gb253, 2, none⟩ (.string ((rd_T26 x248003_2 x45_4).f1.f1))).setCell ⟨gb253, 3, none⟩ (.slice A252_3 ((rd_T26 x248003_2 x45_4).f2).length c252_3)) w.heap.size (fun k_ => (w.heap.size ≤ k_)) u7 x7_2) := ⟨by (with_reducible repeat (first | apply Kd.R_alloc | apply Kd.R_drewN | apply Kd.R_drew)); exact Kd.R_mono (Kd.R_far (p := ⟨gb253, 3, none⟩) (Kd.R_far (p := ⟨gb253, 2, none⟩) (Kd.R_far (p := ⟨gb253, 1, none⟩) (Kd.R_far (p := ⟨gb253, 0, none⟩) (Kd.R_types HO_7.out BK253.out (by decide)) (fun _ hk => hk.2) (.int .i64 ((rd_T26 x248003_2 x45_4).f0))) (fun _ hk => hk.2) (.int .i64 ((rd_T26 x248003_2 x45_4).f1.f0))) (fun _ hk => hk.2) (.string ((rd_T26 x248003_2 x45_4).f1.f1))) (fun _ hk => hk.2) (.slice A252_3 ((rd_T26 x248003_2 x45_4).f2).length c252_3)) (fun _ hk => hk.1)⟩
              have n1_ : Aside0 (Kd.V k26 26 ((((w52.setCell ⟨gb253, 0, none⟩ (.int .i64 ((rd_T26 x248003_2 x45_4).f0))).setCell ⟨gb253, 1, none⟩ (.int .i64 ((rd_T26 x248003_2 x45_4).f1.f0))).setCell ⟨gb253, 2, none⟩ (.string ((rd_T26 x248003_2 x45_4).f1.f1))).setCell ⟨gb253, 3, none⟩ (.slice A252_3 ((rd_T26 x248003_2 x45_4).f2).length c252_3)) w.heap.size (fun k_ => ((P0_3_ k_ ∨ P1_3_ k_) ∨ w.heap.size ≤ k_) ∧ some k_ ≠ (u7 : Value).ownBlock ∧ k_ ≠ gb247 ∧ k_ ≠ gb248 ∧ k_ ≠ gb253) (.slice (some ad252) x248003_2.length co45) x248003_2) := ⟨by (with_reducible repeat (first | apply Kd.V_alloc | apply Kd.V_drewN | apply Kd.V_drew)); exact Kd.V_mono (Kd.V_far (p := ⟨gb253, 3, none⟩) (Kd.V_far (p := ⟨gb253, 2, none⟩) (Kd.V_far (p := ⟨gb253, 1, none⟩) (Kd.V_far (p := ⟨gb253, 0, none⟩) (Kd.V_mono HO_43.out (fun k_ hk => (⟨hk, hk.2⟩ : _ ∧ k_ ≠ gb253))) (fun _ hk => hk.2) (.int .i64 ((rd_T26 x248003_2 x45_4).f0))) (fun _ hk => hk.2) (.int .i64 ((rd_T26 x248003_2 x45_4).f1.f0))) (fun _ hk => hk.2) (.string ((rd_T26 x248003_2 x45_4).f1.f1))) (fun _ hk => hk.2) (.slice A252_3 ((rd_T26 x248003_2 x45_4).f2).length c252_3)) (fun _ hk => ⟨hk.1.1.1, ⟨hk.1.1.2.1, ⟨hk.1.1.2.2.1, ⟨hk.1.1.2.2.2, hk.1.2⟩⟩⟩⟩)⟩
              have n2_ : Aside0 (Kd.V k26 26 ((((w52.setCell ⟨gb253, 0, none⟩ (.int .i64 ((rd_T26 x248003_2 x45_4).f0))).setCell ⟨gb253, 1, none⟩ (.int .i64 ((rd_T26 x248003_2 x45_4).f1.f0))).setCell ⟨gb253, 2, none⟩ (.string ((rd_T26 x248003_2 x45_4).f1.f1))).setCell ⟨gb253, 3, none⟩ (.slice A252_3 ((rd_T26 x248003_2 x45_4).f2).length c252_3)) w.heap.size (fun k_ => ((P0_3_ k_ ∨ P1_3_ k_) ∨ w.heap.size ≤ k_) ∧ some k_ ≠ (u7 : Value).ownBlock ∧ k_ ≠ gb247 ∧ k_ ≠ gb248 ∧ k_ ≠ gb253) (.slice (some ad252) x248003_2.length co45) x248003_2) := ⟨by (with_reducible repeat (first | apply Kd.V_alloc | apply Kd.V_drewN | apply Kd.V_drew)); exact Kd.V_mono (Kd.V_far (p := ⟨gb253, 3, none⟩) (Kd.V_far (p := ⟨gb253, 2, none⟩) (Kd.V_far (p := ⟨gb253, 1, none⟩) (Kd.V_far (p := ⟨gb253, 0, none⟩) (Kd.V_mono HO_248003.out (fun k_ hk => (⟨hk, hk.2⟩ : _ ∧ k_ ≠ gb253))) (fun _ hk => hk.2) (.int .i64 ((rd_T26 x248003_2 x45_4).f0))) (fun _ hk => hk.2) (.int .i64 ((rd_T26 x248003_2 x45_4).f1.f0))) (fun _ hk => hk.2) (.string ((rd_T26 x248003_2 x45_4).f1.f1))) (fun _ hk => hk.2) (.slice A252_3 ((rd_T26 x248003_2 x45_4).f2).length c252_3)) (fun _ hk => ⟨hk.1.1.1, ⟨hk.1.1.2.1, ⟨hk.1.1.2.2.1, ⟨hk.1.1.2.2.2, hk.1.2⟩⟩⟩⟩)⟩
              have n3_ : Aside0 (Kd.V k26 26 ((((w52.setCell ⟨gb253, 0, none⟩ (.int .i64 ((rd_T26 x248003_2 x45_4).f0))).setCell ⟨gb253, 1, none⟩ (.int .i64 ((rd_T26 x248003_2 x45_4).f1.f0))).setCell ⟨gb253, 2, none⟩ (.string ((rd_T26 x248003_2 x45_4).f1.f1))).setCell ⟨gb253, 3, none⟩ (.slice A252_3 ((rd_T26 x248003_2 x45_4).f2).length c252_3)) w.heap.size (fun k_ => ((P0_3_ k_ ∨ P1_3_ k_) ∨ w.heap.size ≤ k_) ∧ some k_ ≠ (u7 : Value).ownBlock ∧ k_ ≠ gb247 ∧ k_ ≠ gb248 ∧ k_ ≠ gb253) u249003 x249003_2) := ⟨by (with_reducible repeat (first | apply Kd.V_alloc | apply Kd.V_drewN | apply Kd.V_drew)); exact Kd.V_mono (Kd.V_far (p := ⟨gb253, 3, none⟩) (Kd.V_far (p := ⟨gb253, 2, none⟩) (Kd.V_far (p := ⟨gb253, 1, none⟩) (Kd.V_far (p := ⟨gb253, 0, none⟩) (Kd.V_mono HO_249003.out (fun k_ hk => (⟨hk, hk.2⟩ : _ ∧ k_ ≠ gb253))) (fun _ hk => hk.2) (.int .i64 ((rd_T26 x248003_2 x45_4).f0))) (fun _ hk => hk.2) (.int .i64 ((rd_T26 x248003_2 x45_4).f1.f0))) (fun _ hk => hk.2) (.string ((rd_T26 x248003_2 x45_4).f1.f1))) (fun _ hk => hk.2) (.slice A252_3 ((rd_T26 x248003_2 x45_4).f2).length c252_3)) (fun _ hk => ⟨hk.1.1.1, ⟨hk.1.1.2.1, ⟨hk.1.1.2.2.1, ⟨hk.1.1.2.2.2, hk.1.2⟩⟩⟩⟩)⟩
              have n4_ : Aside0 (Kd.V k26 26 ((((w52.setCell ⟨gb253, 0, none⟩ (.int .i64 ((rd_T26 x248003_2 x45_4).f0))).setCell ⟨gb253, 1, none⟩ (.int .i64 ((rd_T26 x248003_2 x45_4).f1.f0))).setCell ⟨gb253, 2, none⟩ (.string ((rd_T26 x248003_2 x45_4).f1.f1))).setCell ⟨gb253, 3, none⟩ (.slice A252_3 ((rd_T26 x248003_2 x45_4).f2).length c252_3)) w.heap.size (fun k_ => ((P0_3_ k_ ∨ P1_3_ k_) ∨ w.heap.size ≤ k_) ∧ some k_ ≠ (u7 : Value).ownBlock ∧ k_ ≠ gb247 ∧ k_ ≠ gb248 ∧ k_ ≠ gb253) (.slice A252_3 ((rd_T26 x248003_2 x45_4).f2).length c252_3) ((rd_T26 x248003_2 x45_4).f2)) := ⟨by (with_reducible repeat (first | apply Kd.V_alloc | apply Kd.V_drewN | apply Kd.V_drew)); exact Kd.V_mono (Kd.V_far (p := ⟨gb253, 3, none⟩) (Kd.V_far (p := ⟨gb253, 2, none⟩) (Kd.V_far (p := ⟨gb253, 1, none⟩) (Kd.V_far (p := ⟨gb253, 0, none⟩) (Kd.V_mono HL252_3.out (fun k_ hk => (⟨hk, hk.2⟩ : _ ∧ k_ ≠ gb253))) (fun _ hk => hk.2) (.int .i64 ((rd_T26 x248003_2 x45_4).f0))) (fun _ hk => hk.2) (.int .i64 ((rd_T26 x248003_2 x45_4).f1.f0))) (fun _ hk => hk.2) (.string ((rd_T26 x248003_2 x45_4).f1.f1))) (fun _ hk => hk.2) (.slice A252_3 ((rd_T26 x248003_2 x45_4).f2).length c252_3)) (fun _ hk => ⟨hk.1.1.1, ⟨hk.1.1.2.1, ⟨hk.1.1.2.2.1, ⟨hk.1.1.2.2.2, hk.1.2⟩⟩⟩⟩)⟩
              have n5_ : Aside0 (((((w52.setCell ⟨gb253, 0, none⟩ (.int .i64 ((rd_T26 x248003_2 x45_4).f0))).setCell ⟨gb253, 1, none⟩ (.int .i64 ((rd_T26 x248003_2 x45_4).f1.f0))).setCell ⟨gb253, 2, none⟩ (.string ((rd_T26 x248003_2 x45_4).f1.f1))).setCell ⟨gb253, 3, none⟩ (.slice A252_3 ((rd_T26 x248003_2 x45_4).f2).length c252_3)).heap[gb247]? = some (.cells #[.int .i64 x248000_2, .int .i64 x248001_2, .string x248002_2, .slice (some ad252) x248003_2.length co45] 26 (0, 0))) := ⟨zw⟩
              have n6_ : Aside0 (((((w52.setCell ⟨gb253, 0, none⟩ (.int .i64 ((rd_T26 x248003_2 x45_4).f0))).setCell ⟨gb253, 1, none⟩ (.int .i64 ((rd_T26 x248003_2 x45_4).f1.f0))).setCell ⟨gb253, 2, none⟩ (.string ((rd_T26 x248003_2 x45_4).f1.f1))).setCell ⟨gb253, 3, none⟩ (.slice A252_3 ((rd_T26 x248003_2 x45_4).f2).length c252_3)).heap[gb248]? = some (.cells #[.int .i64 x249000_2, .int .i64 x249001_2, .string x249002_2, u249003] 26 (0, 0))) := ⟨zw⟩
              have n7_ : Aside0 (((((w52.setCell ⟨gb253, 0, none⟩ (.int .i64 ((rd_T26 x248003_2 x45_4).f0))).setCell ⟨gb253, 1, none⟩ (.int .i64 ((rd_T26 x248003_2 x45_4).f1.f0))).setCell ⟨gb253, 2, none⟩ (.string ((rd_T26 x248003_2 x45_4).f1.f1))).setCell ⟨gb253, 3, none⟩ (.slice A252_3 ((rd_T26 x248003_2 x45_4).f2).length c252_3)).heap[gb253]? = some (.cells #[.int .i64 ((rd_T26 x248003_2 x45_4).f0), .int .i64 ((rd_T26 x248003_2 x45_4).f1.f0), .string ((rd_T26 x248003_2 x45_4).f1.f1), .slice A252_3 ((rd_T26 x248003_2 x45_4).f2).length c252_3] 26 (0, 0))) := ⟨zw⟩
              have n8_ : Aside0 (Below w.heap.size w ((((w52.setCell ⟨gb253, 0, none⟩ (.int .i64 ((rd_T26 x248003_2 x45_4).f0))).setCell ⟨gb253, 1, none⟩ (.int .i64 ((rd_T26 x248003_2 x45_4).f1.f0))).setCell ⟨gb253, 2, none⟩ (.string ((rd_T26 x248003_2 x45_4).f1.f1))).setCell ⟨gb253, 3, none⟩ (.slice A252_3 ((rd_T26 x248003_2 x45_4).f2).length c252_3))) := ⟨zb⟩
              (try clear HO_7)
              (try clear HO_43)
              (try clear HO_248003)
              (try clear HO_249003)
              (try clear HL252_3)
              (try clear BK247)
              (try clear BK248)
              (try clear BK253)
              (try clear HB)
              generalize ((((w52.setCell ⟨gb253, 0, none⟩ (.int .i64 ((rd_T26 x248003_2 x45_4).f0))).setCell ⟨gb253, 1, none⟩ (.int .i64 ((rd_T26 x248003_2 x45_4).f1.f0))).setCell ⟨gb253, 2, none⟩ (.string ((rd_T26 x248003_2 x45_4).f1.f1))).setCell ⟨gb253, 3, none⟩ (.slice A252_3 ((rd_T26 x248003_2 x45_4).f2).length c252_3)) = w56 at n0_ n1_ n2_ n3_ n4_ n5_ n6_ n7_ n8_ ⊢; have HO_7 := n0_; have HO_43 := n1_; have HO_248003 := n2_; have HO_249003 := n3_; have HL252_3 := n4_; have BK247 := n5_; have BK248 := n6_; have BK253 := n7_; have HB := n8_; clear n0_ n1_ n2_ n3_ n4_ n5_ n6_ n7_ n8_; replace HO_7 := Aside0.mk (Kd.R_drew HO_7.out); replace HO_43 := Aside0.mk (Kd.V_drew HO_43.out); replace HO_248003 := Aside0.mk (Kd.V_drew HO_248003.out); replace HO_249003 := Aside0.mk (Kd.V_drew HO_249003.out); replace HL252_3 := Aside0.mk (Kd.V_drew HL252_3.out); replace BK247 := Aside0.mk (blk_drew BK247.out); replace BK248 := Aside0.mk (blk_drew BK248.out); replace BK253 := Aside0.mk (blk_drew BK253.out); replace HB := Aside0.mk (below_drew1 HB.out); obtain ⟨Ao58, co58, eo58⟩ := Kd.V_slice HO_249003.out
              (first | subst eo58 | (injection eo58 with f1_ f2_ f3_; have f4_ := f1_.symm; have f5_ := f3_.symm; clear f1_ f2_ f3_; subst f4_; subst f5_))
              have p254 : 0 ≤ (x45_4 : Int) := zt; have q254 : x45_4 < (x249003_2.length : Int) := zt; obtain ⟨ad254, A254_3, c254_3, e254, hx254_0, hx254_1, hx254_2, hx254_3, hl254_3, hi254_3⟩ := at_T26 (Kd.V_reads' HO_249003.out).2.2 x45_4 p254 q254
              cases e254
              obtain ⟨ce254, hce254, hMe254, hcc254⟩ := Kd.V_get HO_249003.out z26 x45_4 p254 (by first | exact q254 | exact zt | (have e_ := (Kd.V_reads' HO_249003.out).1; omega)); obtain ⟨ua254_3, uc254_3, rfl, ul254_3, ge254_3⟩ := k26_openF hMe254; have hv254_3 := hcc254 3 _ rfl; rw [add_field _ _ 3 (by omega)] at hv254_3; replace hv254_3 := Option.some.inj (hv254_3.symm.trans hx254_3); injection hv254_3 with hva_ hvn_ hvc_; rw [hva_] at ge254_3; rw [hvc_] at ul254_3; have HL254_3 := Aside0.mk (show Kd.V k26 26 _ w.heap.size _ _ ((rd_T26 x249003_2 x45_4).f2) from Kd.V_mk ul254_3 ge254_3); clear hva_ hvn_ hvc_ ge254_3 ul254_3 hcc254 hce254; have HR254_3 := Aside0.mk hi254_3; have HC254_3 := Aside0.mk hl254_3; clear hi254_3 hl254_3; replace p254 := eq_true p254; replace q254 := eq_true q254; refine start_ (n := 8) (S := fun w' => w'.cell? ⟨gb253, 0, none⟩ = some (.int .i64 ((rd_T26 x248003_2 x45_4).f0)) ∧ w'.cell? ⟨gb253, 1, none⟩ = some (.int .i64 ((rd_T26 x248003_2 x45_4).f1.f0)) ∧ w'.cell? ⟨gb253, 2, none⟩ = some (.string ((rd_T26 x248003_2 x45_4).f1.f1)) ∧ w'.cell? ⟨gb253, 3, none⟩ = some (.slice A252_3 ((rd_T26 x248003_2 x45_4).f2).length c252_3) ∧ w'.cell? ⟨gb248, 0, none⟩ = some (.int .i64 x249000_2) ∧ w'.cell? ⟨gb248, 1, none⟩ = some (.int .i64 x249001_2) ∧ w'.cell? ⟨gb248, 2, none⟩ = some (.string x249002_2) ∧ w'.cell? ⟨gb248, 3, none⟩ = some (.slice (some ad254) x249003_2.length co58) ∧ w'.cell? (ad254.add ((x45_4).toNat * 4)) = some (.int .i64 ((rd_T26 x249003_2 x45_4).f0)) ∧ w'.cell? ⟨(ad254.add ((x45_4).toNat * 4)).block, (ad254.add ((x45_4).toNat * 4)).off + 1, none⟩ = some (.int .i64 ((rd_T26 x249003_2 x45_4).f1.f0)) ∧ w'.cell? ⟨(ad254.add ((x45_4).toNat * 4)).block, (ad254.add ((x45_4).toNat * 4)).off + 2, none⟩ = some (.string ((rd_T26 x249003_2 x45_4).f1.f1)) ∧ w'.cell? ⟨(ad254.add ((x45_4).toNat * 4)).block, (ad254.add ((x45_4).toNat * 4)).off + 3, none⟩ = some (.slice A254_3 ((rd_T26 x249003_2 x45_4).f2).length c254_3)) (ds := []) #[false, false, false, false, false, false, false, false] (by kernel_rfl) rfl rfl ⟨(blk_cell BK253.out 0).trans rfl, (blk_cell BK253.out 1).trans rfl, (blk_cell BK253.out 2).trans rfl, (blk_cell BK253.out 3).trans rfl, (blk_cell BK248.out 0).trans rfl, (blk_cell BK248.out 1).trans rfl, (blk_cell BK248.out 2).trans rfl, (blk_cell BK248.out 3).trans rfl, hx254_0, hx254_1, hx254_2, hx254_3⟩ (fun hHeld => ?_); refine with_tabW tree_Changed.tab11 tree_Changed.bits11 (fun HT_ HW_ => ?_); generalize w56.drew = w57 at HO_7 HO_43 HO_248003 HO_249003 HL252_3 BK247 BK248 BK253 HB HL254_3 HR254_3 hx254_0 hx254_1 hx254_2 hx254_3 hHeld ⊢; refine zp 1 51 HT_ ?_; refine zp 3 53 HT_ ?_; refine zy 0 50 HT_ HW_ hHeld ?_; refine zy 2 52 HT_ HW_ hHeld ?_; refine zp 4 54 HT_ ?_; refine zy 5 55 HT_ HW_ hHeld ?_; refine one_ (i := 6) (N := some 56) #[true, true, true, true, true, true, true, false] rfl rfl (one_of HT_.out (by kernel_rfl)) (by decide) (fun K hK => ?_); refine goes_ Try.func36 (by kernel_rfl) rfl #[.agg #[.int .i64 ((rd_T26 x248003_2 x45_4).f0), .int .i64 ((rd_T26 x248003_2 x45_4).f1.f0), .string ((rd_T26 x248003_2 x45_4).f1.f1), .slice A252_3 ((rd_T26 x248003_2 x45_4).f2).length c252_3], .agg #[.int .i64 ((rd_T26 x249003_2 x45_4).f0), .int .i64 ((rd_T26 x249003_2 x45_4).f1.f0), .string ((rd_T26 x249003_2 x45_4).f1.f1), .slice A254_3 ((rd_T26 x249003_2 x45_4).f2).length c254_3]] (by rfl) rfl rfl (by (try simp only [List.map_toArray, List.map_cons, List.map_nil]); first | done | rfl | (simp only [List.length_drop, List.length_take]; rfl)) ?_
              with_reducible refine (tree_Same.calls k4 ((rd_T26 x248003_2 x45_4).f0) ((rd_T26 x248003_2 x45_4).f1.f0) ((rd_T26 x248003_2 x45_4).f1.f1) _ _ ((rd_T26 x248003_2 x45_4).f2) ((rd_T26 x249003_2 x45_4).f0) ((rd_T26 x249003_2 x45_4).f1.f0) ((rd_T26 x249003_2 x45_4).f1.f1) _ _ ((rd_T26 x249003_2 x45_4).f2) true _ ?side1 ?side2 ?side3 ?side4 A50.out).mono ?_
              (case side1 => repeat (first | exact ((Kd.V_reads' (zV HL252_3)).2.2) | (with_reducible refine Kd.C_alloc ?_ _) | (with_reducible refine Kd.C_drewN ?_ _) | (with_reducible refine Kd.C_drew ?_)))
              (case side2 => exact HC252_3.out)
              (case side3 => exact (zE HR254_3))
              (case side4 => exact HC254_3.out)
              rintro e w59 ⟨rfl, hb⟩; have HS8_ := (hb.cell (World.block_lt_of_cell? _ _ (hHeld.2.2.2.2.2.2.2.2.1))).trans (hHeld.2.2.2.2.2.2.2.2.1); have HS9_ := (hb.cell (World.block_lt_of_cell? _ _ (hHeld.2.2.2.2.2.2.2.2.2.1))).trans (hHeld.2.2.2.2.2.2.2.2.2.1); have HS10_ := (hb.cell (World.block_lt_of_cell? _ _ (hHeld.2.2.2.2.2.2.2.2.2.2.1))).trans (hHeld.2.2.2.2.2.2.2.2.2.2.1); have HS11_ := (hb.cell (World.block_lt_of_cell? _ _ (hHeld.2.2.2.2.2.2.2.2.2.2.2))).trans (hHeld.2.2.2.2.2.2.2.2.2.2.2); refine ⟨_, rfl, ?_⟩
              replace HO_7 := (zRb HO_7 hb)
              replace HO_43 := (zVb HO_43 hb)
              replace HO_248003 := (zVb HO_248003 hb)
              replace HO_249003 := (zVb HO_249003 hb)
              replace HL252_3 := (zVb HL252_3 hb)
              replace HL254_3 := (zVb HL254_3 hb)
              replace BK247 := (zK BK247 hb)
              replace BK248 := (zK BK248 hb)
              replace BK253 := (zK BK253 hb)
              replace HR254_3 := Aside0.mk (Kd.C_below (zE HR254_3) hb)
              replace HB := (zB hb)
              (try clear hb)
              (try clear hb2)
              (try clear hk)
              (try clear hi)
              refine hK.out _ _ ⟨(blk_cell BK253.out 0).trans rfl, (blk_cell BK253.out 1).trans rfl, (blk_cell BK253.out 2).trans rfl, (blk_cell BK253.out 3).trans rfl, (blk_cell BK248.out 0).trans rfl, (blk_cell BK248.out 1).trans rfl, (blk_cell BK248.out 2).trans rfl, (blk_cell BK248.out 3).trans rfl, HS8_, HS9_, HS10_, HS11_⟩ (fun hHeld => ?_); clear hK K; refine norm_ (a' := ?_) ?_ ?_; rotate_left
              ·show Act.put _ (some 56) _ = _
               simp only [Act.put, List.setIfInBounds_toArray, List.set_cons_zero, List.set_cons_succ, i64_w, i32_w]; rfl
              refine zp 7 57 HT_ ?_; refine done_ (done_of HT_.out (by kernel_rfl)) ?_
              try go_wp2
              go_roundg k4
              case measure => have := HJ2.out; have := HK2.out; have := HJ27.out; have := HK4.out; omega
              case rel => exact ⟨(x8_4), (x9_4), (wrap64 (x45_4 + 1)), zs, zs, zs, H', ⟨by have := HJ2.out; have := HK2.out; have := HJ27.out; have := HK4.out; omega⟩, ⟨by (with_reducible repeat (first | apply Kd.R_alloc | apply Kd.R_drewN | apply Kd.R_drew)); exact HO_7.out⟩, ⟨by (with_reducible repeat (first | apply Kd.V_alloc | apply Kd.V_drewN | apply Kd.V_drew)); exact Kd.V_mono HO_43.out (fun _ hk => ⟨hk.1, ⟨hk.2.1, ⟨hk.2.2.1, hk.2.2.2.1⟩⟩⟩)⟩, ⟨by (with_reducible repeat (first | apply Kd.V_alloc | apply Kd.V_drewN | apply Kd.V_drew)); exact Kd.V_mono HO_248003.out (fun _ hk => ⟨hk.1, ⟨hk.2.1, ⟨hk.2.2.1, hk.2.2.2.1⟩⟩⟩)⟩, ⟨by (with_reducible repeat (first | apply Kd.V_alloc | apply Kd.V_drewN | apply Kd.V_drew)); exact Kd.V_mono HO_249003.out (fun _ hk => ⟨hk.1, ⟨hk.2.1, ⟨hk.2.2.1, hk.2.2.2.1⟩⟩⟩)⟩, (zA BK247), (zA BK248), ⟨zb⟩⟩
             ·replace c51 := Bool.eq_false_iff.mpr c51; subst c51; replace H := zf H; have H' := Aside0.mk H; clear H; have p252 : 0 ≤ (x45_4 : Int) := zt; have q252 : x45_4 < (x248003_2.length : Int) := zt; obtain ⟨ad252, A252_3, c252_3, e252, hx252_0, hx252_1, hx252_2, hx252_3, hl252_3, hi252_3⟩ := at_T26 (Kd.V_reads' HO_43.out).2.2 x45_4 p252 q252
              cases e252
              obtain ⟨ce252, hce252, hMe252, hcc252⟩ := Kd.V_get HO_43.out z26 x45_4 p252 (by first | exact q252 | exact zt | (have e_ := (Kd.V_reads' HO_43.out).1; omega)); obtain ⟨ua252_3, uc252_3, rfl, ul252_3, ge252_3⟩ := k26_openF hMe252; have hv252_3 := hcc252 3 _ rfl; rw [add_field _ _ 3 (by omega)] at hv252_3; replace hv252_3 := Option.some.inj (hv252_3.symm.trans hx252_3); injection hv252_3 with hva_ hvn_ hvc_; rw [hva_] at ge252_3; rw [hvc_] at ul252_3; have HL252_3 := Aside0.mk (show Kd.V k26 26 _ w.heap.size _ _ ((rd_T26 x248003_2 x45_4).f2) from Kd.V_mk ul252_3 ge252_3); clear hva_ hvn_ hvc_ ge252_3 ul252_3 hcc252 hce252; have HR252_3 := Aside0.mk hi252_3; have HC252_3 := Aside0.mk hl252_3; clear hi252_3 hl252_3; replace p252 := eq_true p252; replace q252 := eq_true q252
              try go_wp2_with (first | ((with_reducible refine zD 11 rfl ?_); (try (refine gate_guard (by rfl) ?_; dsimp only)); refine zx 11 #[.int .i64 0, .int .i64 0, .string (⟨#[]⟩ : ByteArray), .slice none 0 0] 26 ?_; intro gb253 hg w60 hbox hb; replace HO_7 := (zRb HO_7 hb); replace HO_43 := Aside0.mk (Kd.V_below (Kd.V_elderB (zV HO_43) gb253 (Nat.le_of_eq hg.symm)) hb); replace HO_248003 := Aside0.mk (Kd.V_below (Kd.V_elderB (zV HO_248003) gb253 (Nat.le_of_eq hg.symm)) hb); replace HO_249003 := Aside0.mk (Kd.V_below (Kd.V_elderB (zV HO_249003) gb253 (Nat.le_of_eq hg.symm)) hb); replace HL252_3 := Aside0.mk (Kd.V_below (Kd.V_elderB (zV HL252_3) gb253 (Nat.le_of_eq hg.symm)) hb); replace HR252_3 := Aside0.mk (Kd.C_below (zE HR252_3) hb); have BK253 := Aside0.mk (hbox); have GW253 := (zq hg : Aside0 (w.heap.size ≤ gb253)); have GE253 := GW253; replace HB := (zB hb); have NB247_253 := (zl hg BK247 : Aside0 (gb247 ≠ gb253)); have NB253_247 := (zl' hg BK247 : Aside0 (gb253 ≠ gb247)); replace BK247 := (zK BK247 hb); have NB248_253 := (zl hg BK248 : Aside0 (gb248 ≠ gb253)); have NB253_248 := (zl' hg BK248 : Aside0 (gb253 ≠ gb248)); replace BK248 := (zK BK248 hb); clear hb hbox hg; have hnb61 := NB253_247.out; have hnc61 := NB247_253.out; have hnb62 := NB253_248.out; have hnc62 := NB248_253.out; obtain ⟨hcz63_0, hcz63_1, hcz63_2, hcz63_3⟩ := zc4 BK253; obtain ⟨hfz63_0, hfz63_1, hfz63_2, hfz63_3⟩ := zz4 BK253))
              have n0_ : Aside0 (Kd.R (Kd.int .i64) 3 ((((w60.setCell ⟨gb253, 0, none⟩ (.int .i64 ((rd_T26 x248003_2 x45_4).f0))).setCell ⟨gb253, 1, none⟩ (.int .i64 ((rd_T26 x248003_2 x45_4).f1.f0))).setCell ⟨gb253, 2, none⟩ (.string ((rd_T26 x248003_2 x45_4).f1.f1))).setCell ⟨gb253, 3, none⟩ (.slice A252_3 ((rd_T26 x248003_2 x45_4).f2).length c252_3)) w.heap.size (fun k_ => (w.heap.size ≤ k_)) u7 x7_2) := ⟨by (with_reducible repeat (first | apply Kd.R_alloc | apply Kd.R_drewN | apply Kd.R_drew)); exact Kd.R_mono (Kd.R_far (p := ⟨gb253, 3, none⟩) (Kd.R_far (p := ⟨gb253, 2, none⟩) (Kd.R_far (p := ⟨gb253, 1, none⟩) (Kd.R_far (p := ⟨gb253, 0, none⟩) (Kd.R_types HO_7.out BK253.out (by decide)) (fun _ hk => hk.2) (.int .i64 ((rd_T26 x248003_2 x45_4).f0))) (fun _ hk => hk.2) (.int .i64 ((rd_T26 x248003_2 x45_4).f1.f0))) (fun _ hk => hk.2) (.string ((rd_T26 x248003_2 x45_4).f1.f1))) (fun _ hk => hk.2) (.slice A252_3 ((rd_T26 x248003_2 x45_4).f2).length c252_3)) (fun _ hk => hk.1)⟩
              have n1_ : Aside0 (Kd.V k26 26 ((((w60.setCell ⟨gb253, 0, none⟩ (.int .i64 ((rd_T26 x248003_2 x45_4).f0))).setCell ⟨gb253, 1, none⟩ (.int .i64 ((rd_T26 x248003_2 x45_4).f1.f0))).setCell ⟨gb253, 2, none⟩ (.string ((rd_T26 x248003_2 x45_4).f1.f1))).setCell ⟨gb253, 3, none⟩ (.slice A252_3 ((rd_T26 x248003_2 x45_4).f2).length c252_3)) w.heap.size (fun k_ => ((P0_3_ k_ ∨ P1_3_ k_) ∨ w.heap.size ≤ k_) ∧ some k_ ≠ (u7 : Value).ownBlock ∧ k_ ≠ gb247 ∧ k_ ≠ gb248 ∧ k_ ≠ gb253) (.slice (some ad252) x248003_2.length co45) x248003_2) := ⟨by (with_reducible repeat (first | apply Kd.V_alloc | apply Kd.V_drewN | apply Kd.V_drew)); exact Kd.V_mono (Kd.V_far (p := ⟨gb253, 3, none⟩) (Kd.V_far (p := ⟨gb253, 2, none⟩) (Kd.V_far (p := ⟨gb253, 1, none⟩) (Kd.V_far (p := ⟨gb253, 0, none⟩) (Kd.V_mono HO_43.out (fun k_ hk => (⟨hk, hk.2⟩ : _ ∧ k_ ≠ gb253))) (fun _ hk => hk.2) (.int .i64 ((rd_T26 x248003_2 x45_4).f0))) (fun _ hk => hk.2) (.int .i64 ((rd_T26 x248003_2 x45_4).f1.f0))) (fun _ hk => hk.2) (.string ((rd_T26 x248003_2 x45_4).f1.f1))) (fun _ hk => hk.2) (.slice A252_3 ((rd_T26 x248003_2 x45_4).f2).length c252_3)) (fun _ hk => ⟨hk.1.1.1, ⟨hk.1.1.2.1, ⟨hk.1.1.2.2.1, ⟨hk.1.1.2.2.2, hk.1.2⟩⟩⟩⟩)⟩
              have n2_ : Aside0 (Kd.V k26 26 ((((w60.setCell ⟨gb253, 0, none⟩ (.int .i64 ((rd_T26 x248003_2 x45_4).f0))).setCell ⟨gb253, 1, none⟩ (.int .i64 ((rd_T26 x248003_2 x45_4).f1.f0))).setCell ⟨gb253, 2, none⟩ (.string ((rd_T26 x248003_2 x45_4).f1.f1))).setCell ⟨gb253, 3, none⟩ (.slice A252_3 ((rd_T26 x248003_2 x45_4).f2).length c252_3)) w.heap.size (fun k_ => ((P0_3_ k_ ∨ P1_3_ k_) ∨ w.heap.size ≤ k_) ∧ some k_ ≠ (u7 : Value).ownBlock ∧ k_ ≠ gb247 ∧ k_ ≠ gb248 ∧ k_ ≠ gb253) (.slice (some ad252) x248003_2.length co45) x248003_2) := ⟨by (with_reducible repeat (first | apply Kd.V_alloc | apply Kd.V_drewN | apply Kd.V_drew)); exact Kd.V_mono (Kd.V_far (p := ⟨gb253, 3, none⟩) (Kd.V_far (p := ⟨gb253, 2, none⟩) (Kd.V_far (p := ⟨gb253, 1, none⟩) (Kd.V_far (p := ⟨gb253, 0, none⟩) (Kd.V_mono HO_248003.out (fun k_ hk => (⟨hk, hk.2⟩ : _ ∧ k_ ≠ gb253))) (fun _ hk => hk.2) (.int .i64 ((rd_T26 x248003_2 x45_4).f0))) (fun _ hk => hk.2) (.int .i64 ((rd_T26 x248003_2 x45_4).f1.f0))) (fun _ hk => hk.2) (.string ((rd_T26 x248003_2 x45_4).f1.f1))) (fun _ hk => hk.2) (.slice A252_3 ((rd_T26 x248003_2 x45_4).f2).length c252_3)) (fun _ hk => ⟨hk.1.1.1, ⟨hk.1.1.2.1, ⟨hk.1.1.2.2.1, ⟨hk.1.1.2.2.2, hk.1.2⟩⟩⟩⟩)⟩
              have n3_ : Aside0 (Kd.V k26 26 ((((w60.setCell ⟨gb253, 0, none⟩ (.int .i64 ((rd_T26 x248003_2 x45_4).f0))).setCell ⟨gb253, 1, none⟩ (.int .i64 ((rd_T26 x248003_2 x45_4).f1.f0))).setCell ⟨gb253, 2, none⟩ (.string ((rd_T26 x248003_2 x45_4).f1.f1))).setCell ⟨gb253, 3, none⟩ (.slice A252_3 ((rd_T26 x248003_2 x45_4).f2).length c252_3)) w.heap.size (fun k_ => ((P0_3_ k_ ∨ P1_3_ k_) ∨ w.heap.size ≤ k_) ∧ some k_ ≠ (u7 : Value).ownBlock ∧ k_ ≠ gb247 ∧ k_ ≠ gb248 ∧ k_ ≠ gb253) u249003 x249003_2) := ⟨by (with_reducible repeat (first | apply Kd.V_alloc | apply Kd.V_drewN | apply Kd.V_drew)); exact Kd.V_mono (Kd.V_far (p := ⟨gb253, 3, none⟩) (Kd.V_far (p := ⟨gb253, 2, none⟩) (Kd.V_far (p := ⟨gb253, 1, none⟩) (Kd.V_far (p := ⟨gb253, 0, none⟩) (Kd.V_mono HO_249003.out (fun k_ hk => (⟨hk, hk.2⟩ : _ ∧ k_ ≠ gb253))) (fun _ hk => hk.2) (.int .i64 ((rd_T26 x248003_2 x45_4).f0))) (fun _ hk => hk.2) (.int .i64 ((rd_T26 x248003_2 x45_4).f1.f0))) (fun _ hk => hk.2) (.string ((rd_T26 x248003_2 x45_4).f1.f1))) (fun _ hk => hk.2) (.slice A252_3 ((rd_T26 x248003_2 x45_4).f2).length c252_3)) (fun _ hk => ⟨hk.1.1.1, ⟨hk.1.1.2.1, ⟨hk.1.1.2.2.1, ⟨hk.1.1.2.2.2, hk.1.2⟩⟩⟩⟩)⟩
              have n4_ : Aside0 (Kd.V k26 26 ((((w60.setCell ⟨gb253, 0, none⟩ (.int .i64 ((rd_T26 x248003_2 x45_4).f0))).setCell ⟨gb253, 1, none⟩ (.int .i64 ((rd_T26 x248003_2 x45_4).f1.f0))).setCell ⟨gb253, 2, none⟩ (.string ((rd_T26 x248003_2 x45_4).f1.f1))).setCell ⟨gb253, 3, none⟩ (.slice A252_3 ((rd_T26 x248003_2 x45_4).f2).length c252_3)) w.heap.size (fun k_ => ((P0_3_ k_ ∨ P1_3_ k_) ∨ w.heap.size ≤ k_) ∧ some k_ ≠ (u7 : Value).ownBlock ∧ k_ ≠ gb247 ∧ k_ ≠ gb248 ∧ k_ ≠ gb253) (.slice A252_3 ((rd_T26 x248003_2 x45_4).f2).length c252_3) ((rd_T26 x248003_2 x45_4).f2)) := ⟨by (with_reducible repeat (first | apply Kd.V_alloc | apply Kd.V_drewN | apply Kd.V_drew)); exact Kd.V_mono (Kd.V_far (p := ⟨gb253, 3, none⟩) (Kd.V_far (p := ⟨gb253, 2, none⟩) (Kd.V_far (p := ⟨gb253, 1, none⟩) (Kd.V_far (p := ⟨gb253, 0, none⟩) (Kd.V_mono HL252_3.out (fun k_ hk => (⟨hk, hk.2⟩ : _ ∧ k_ ≠ gb253))) (fun _ hk => hk.2) (.int .i64 ((rd_T26 x248003_2 x45_4).f0))) (fun _ hk => hk.2) (.int .i64 ((rd_T26 x248003_2 x45_4).f1.f0))) (fun _ hk => hk.2) (.string ((rd_T26 x248003_2 x45_4).f1.f1))) (fun _ hk => hk.2) (.slice A252_3 ((rd_T26 x248003_2 x45_4).f2).length c252_3)) (fun _ hk => ⟨hk.1.1.1, ⟨hk.1.1.2.1, ⟨hk.1.1.2.2.1, ⟨hk.1.1.2.2.2, hk.1.2⟩⟩⟩⟩)⟩
              have n5_ : Aside0 (((((w60.setCell ⟨gb253, 0, none⟩ (.int .i64 ((rd_T26 x248003_2 x45_4).f0))).setCell ⟨gb253, 1, none⟩ (.int .i64 ((rd_T26 x248003_2 x45_4).f1.f0))).setCell ⟨gb253, 2, none⟩ (.string ((rd_T26 x248003_2 x45_4).f1.f1))).setCell ⟨gb253, 3, none⟩ (.slice A252_3 ((rd_T26 x248003_2 x45_4).f2).length c252_3)).heap[gb247]? = some (.cells #[.int .i64 x248000_2, .int .i64 x248001_2, .string x248002_2, .slice (some ad252) x248003_2.length co45] 26 (0, 0))) := ⟨zw⟩
              have n6_ : Aside0 (((((w60.setCell ⟨gb253, 0, none⟩ (.int .i64 ((rd_T26 x248003_2 x45_4).f0))).setCell ⟨gb253, 1, none⟩ (.int .i64 ((rd_T26 x248003_2 x45_4).f1.f0))).setCell ⟨gb253, 2, none⟩ (.string ((rd_T26 x248003_2 x45_4).f1.f1))).setCell ⟨gb253, 3, none⟩ (.slice A252_3 ((rd_T26 x248003_2 x45_4).f2).length c252_3)).heap[gb248]? = some (.cells #[.int .i64 x249000_2, .int .i64 x249001_2, .string x249002_2, u249003] 26 (0, 0))) := ⟨zw⟩
              have n7_ : Aside0 (((((w60.setCell ⟨gb253, 0, none⟩ (.int .i64 ((rd_T26 x248003_2 x45_4).f0))).setCell ⟨gb253, 1, none⟩ (.int .i64 ((rd_T26 x248003_2 x45_4).f1.f0))).setCell ⟨gb253, 2, none⟩ (.string ((rd_T26 x248003_2 x45_4).f1.f1))).setCell ⟨gb253, 3, none⟩ (.slice A252_3 ((rd_T26 x248003_2 x45_4).f2).length c252_3)).heap[gb253]? = some (.cells #[.int .i64 ((rd_T26 x248003_2 x45_4).f0), .int .i64 ((rd_T26 x248003_2 x45_4).f1.f0), .string ((rd_T26 x248003_2 x45_4).f1.f1), .slice A252_3 ((rd_T26 x248003_2 x45_4).f2).length c252_3] 26 (0, 0))) := ⟨zw⟩
              have n8_ : Aside0 (Below w.heap.size w ((((w60.setCell ⟨gb253, 0, none⟩ (.int .i64 ((rd_T26 x248003_2 x45_4).f0))).setCell ⟨gb253, 1, none⟩ (.int .i64 ((rd_T26 x248003_2 x45_4).f1.f0))).setCell ⟨gb253, 2, none⟩ (.string ((rd_T26 x248003_2 x45_4).f1.f1))).setCell ⟨gb253, 3, none⟩ (.slice A252_3 ((rd_T26 x248003_2 x45_4).f2).length c252_3))) := ⟨zb⟩
              (try clear HO_7)
              (try clear HO_43)
              (try clear HO_248003)
              (try clear HO_249003)
              (try clear HL252_3)
              (try clear BK247)
              (try clear BK248)
              (try clear BK253)
              (try clear HB)
              generalize ((((w60.setCell ⟨gb253, 0, none⟩ (.int .i64 ((rd_T26 x248003_2 x45_4).f0))).setCell ⟨gb253, 1, none⟩ (.int .i64 ((rd_T26 x248003_2 x45_4).f1.f0))).setCell ⟨gb253, 2, none⟩ (.string ((rd_T26 x248003_2 x45_4).f1.f1))).setCell ⟨gb253, 3, none⟩ (.slice A252_3 ((rd_T26 x248003_2 x45_4).f2).length c252_3)) = w64 at n0_ n1_ n2_ n3_ n4_ n5_ n6_ n7_ n8_ ⊢; have HO_7 := n0_; have HO_43 := n1_; have HO_248003 := n2_; have HO_249003 := n3_; have HL252_3 := n4_; have BK247 := n5_; have BK248 := n6_; have BK253 := n7_; have HB := n8_; clear n0_ n1_ n2_ n3_ n4_ n5_ n6_ n7_ n8_; replace HO_7 := Aside0.mk (Kd.R_drew HO_7.out); replace HO_43 := Aside0.mk (Kd.V_drew HO_43.out); replace HO_248003 := Aside0.mk (Kd.V_drew HO_248003.out); replace HO_249003 := Aside0.mk (Kd.V_drew HO_249003.out); replace HL252_3 := Aside0.mk (Kd.V_drew HL252_3.out); replace BK247 := Aside0.mk (blk_drew BK247.out); replace BK248 := Aside0.mk (blk_drew BK248.out); replace BK253 := Aside0.mk (blk_drew BK253.out); replace HB := Aside0.mk (below_drew1 HB.out); obtain ⟨Ao66, co66, eo66⟩ := Kd.V_slice HO_249003.out
              (first | subst eo66 | (injection eo66 with f1_ f2_ f3_; have f4_ := f1_.symm; have f5_ := f3_.symm; clear f1_ f2_ f3_; subst f4_; subst f5_))
              have p254 : 0 ≤ (x45_4 : Int) := zt; have q254 : x45_4 < (x249003_2.length : Int) := zt; obtain ⟨ad254, A254_3, c254_3, e254, hx254_0, hx254_1, hx254_2, hx254_3, hl254_3, hi254_3⟩ := at_T26 (Kd.V_reads' HO_249003.out).2.2 x45_4 p254 q254
              cases e254
              obtain ⟨ce254, hce254, hMe254, hcc254⟩ := Kd.V_get HO_249003.out z26 x45_4 p254 (by first | exact q254 | exact zt | (have e_ := (Kd.V_reads' HO_249003.out).1; omega)); obtain ⟨ua254_3, uc254_3, rfl, ul254_3, ge254_3⟩ := k26_openF hMe254; have hv254_3 := hcc254 3 _ rfl; rw [add_field _ _ 3 (by omega)] at hv254_3; replace hv254_3 := Option.some.inj (hv254_3.symm.trans hx254_3); injection hv254_3 with hva_ hvn_ hvc_; rw [hva_] at ge254_3; rw [hvc_] at ul254_3; have HL254_3 := Aside0.mk (show Kd.V k26 26 _ w.heap.size _ _ ((rd_T26 x249003_2 x45_4).f2) from Kd.V_mk ul254_3 ge254_3); clear hva_ hvn_ hvc_ ge254_3 ul254_3 hcc254 hce254; have HR254_3 := Aside0.mk hi254_3; have HC254_3 := Aside0.mk hl254_3; clear hi254_3 hl254_3; replace p254 := eq_true p254; replace q254 := eq_true q254; refine start_ (n := 8) (S := fun w' => w'.cell? ⟨gb253, 0, none⟩ = some (.int .i64 ((rd_T26 x248003_2 x45_4).f0)) ∧ w'.cell? ⟨gb253, 1, none⟩ = some (.int .i64 ((rd_T26 x248003_2 x45_4).f1.f0)) ∧ w'.cell? ⟨gb253, 2, none⟩ = some (.string ((rd_T26 x248003_2 x45_4).f1.f1)) ∧ w'.cell? ⟨gb253, 3, none⟩ = some (.slice A252_3 ((rd_T26 x248003_2 x45_4).f2).length c252_3) ∧ w'.cell? ⟨gb248, 0, none⟩ = some (.int .i64 x249000_2) ∧ w'.cell? ⟨gb248, 1, none⟩ = some (.int .i64 x249001_2) ∧ w'.cell? ⟨gb248, 2, none⟩ = some (.string x249002_2) ∧ w'.cell? ⟨gb248, 3, none⟩ = some (.slice (some ad254) x249003_2.length co66) ∧ w'.cell? (ad254.add ((x45_4).toNat * 4)) = some (.int .i64 ((rd_T26 x249003_2 x45_4).f0)) ∧ w'.cell? ⟨(ad254.add ((x45_4).toNat * 4)).block, (ad254.add ((x45_4).toNat * 4)).off + 1, none⟩ = some (.int .i64 ((rd_T26 x249003_2 x45_4).f1.f0)) ∧ w'.cell? ⟨(ad254.add ((x45_4).toNat * 4)).block, (ad254.add ((x45_4).toNat * 4)).off + 2, none⟩ = some (.string ((rd_T26 x249003_2 x45_4).f1.f1)) ∧ w'.cell? ⟨(ad254.add ((x45_4).toNat * 4)).block, (ad254.add ((x45_4).toNat * 4)).off + 3, none⟩ = some (.slice A254_3 ((rd_T26 x249003_2 x45_4).f2).length c254_3)) (ds := []) #[false, false, false, false, false, false, false, false] (by kernel_rfl) rfl rfl ⟨(blk_cell BK253.out 0).trans rfl, (blk_cell BK253.out 1).trans rfl, (blk_cell BK253.out 2).trans rfl, (blk_cell BK253.out 3).trans rfl, (blk_cell BK248.out 0).trans rfl, (blk_cell BK248.out 1).trans rfl, (blk_cell BK248.out 2).trans rfl, (blk_cell BK248.out 3).trans rfl, hx254_0, hx254_1, hx254_2, hx254_3⟩ (fun hHeld => ?_); refine with_tabW tree_Changed.tab11 tree_Changed.bits11 (fun HT_ HW_ => ?_); generalize w64.drew = w65 at HO_7 HO_43 HO_248003 HO_249003 HL252_3 BK247 BK248 BK253 HB HL254_3 HR254_3 hx254_0 hx254_1 hx254_2 hx254_3 hHeld ⊢; refine zp 1 51 HT_ ?_; refine zp 3 53 HT_ ?_; refine zy 0 50 HT_ HW_ hHeld ?_; refine zy 2 52 HT_ HW_ hHeld ?_; refine zp 4 54 HT_ ?_; refine zy 5 55 HT_ HW_ hHeld ?_; refine one_ (i := 6) (N := some 56) #[true, true, true, true, true, true, true, false] rfl rfl (one_of HT_.out (by kernel_rfl)) (by decide) (fun K hK => ?_); refine goes_ Try.func36 (by kernel_rfl) rfl #[.agg #[.int .i64 ((rd_T26 x248003_2 x45_4).f0), .int .i64 ((rd_T26 x248003_2 x45_4).f1.f0), .string ((rd_T26 x248003_2 x45_4).f1.f1), .slice A252_3 ((rd_T26 x248003_2 x45_4).f2).length c252_3], .agg #[.int .i64 ((rd_T26 x249003_2 x45_4).f0), .int .i64 ((rd_T26 x249003_2 x45_4).f1.f0), .string ((rd_T26 x249003_2 x45_4).f1.f1), .slice A254_3 ((rd_T26 x249003_2 x45_4).f2).length c254_3]] (by rfl) rfl rfl (by (try simp only [List.map_toArray, List.map_cons, List.map_nil]); first | done | rfl | (simp only [List.length_drop, List.length_take]; rfl)) ?_
              with_reducible refine (tree_Same.calls k4 ((rd_T26 x248003_2 x45_4).f0) ((rd_T26 x248003_2 x45_4).f1.f0) ((rd_T26 x248003_2 x45_4).f1.f1) _ _ ((rd_T26 x248003_2 x45_4).f2) ((rd_T26 x249003_2 x45_4).f0) ((rd_T26 x249003_2 x45_4).f1.f0) ((rd_T26 x249003_2 x45_4).f1.f1) _ _ ((rd_T26 x249003_2 x45_4).f2) false _ ?side1 ?side2 ?side3 ?side4 A50.out).mono ?_
              (case side1 => repeat (first | exact ((Kd.V_reads' (zV HL252_3)).2.2) | (with_reducible refine Kd.C_alloc ?_ _) | (with_reducible refine Kd.C_drewN ?_ _) | (with_reducible refine Kd.C_drew ?_)))
              (case side2 => exact HC252_3.out)
              (case side3 => exact (zE HR254_3))
              (case side4 => exact HC254_3.out)
              rintro e w67 ⟨rfl, hb⟩; have HS8_ := (hb.cell (World.block_lt_of_cell? _ _ (hHeld.2.2.2.2.2.2.2.2.1))).trans (hHeld.2.2.2.2.2.2.2.2.1); have HS9_ := (hb.cell (World.block_lt_of_cell? _ _ (hHeld.2.2.2.2.2.2.2.2.2.1))).trans (hHeld.2.2.2.2.2.2.2.2.2.1); have HS10_ := (hb.cell (World.block_lt_of_cell? _ _ (hHeld.2.2.2.2.2.2.2.2.2.2.1))).trans (hHeld.2.2.2.2.2.2.2.2.2.2.1); have HS11_ := (hb.cell (World.block_lt_of_cell? _ _ (hHeld.2.2.2.2.2.2.2.2.2.2.2))).trans (hHeld.2.2.2.2.2.2.2.2.2.2.2); refine ⟨_, rfl, ?_⟩
              replace HO_7 := (zRb HO_7 hb)
              replace HO_43 := (zVb HO_43 hb)
              replace HO_248003 := (zVb HO_248003 hb)
              replace HO_249003 := (zVb HO_249003 hb)
              replace HL252_3 := (zVb HL252_3 hb)
              replace HL254_3 := (zVb HL254_3 hb)
              replace BK247 := (zK BK247 hb)
              replace BK248 := (zK BK248 hb)
              replace BK253 := (zK BK253 hb)
              replace HR254_3 := Aside0.mk (Kd.C_below (zE HR254_3) hb)
              replace HB := (zB hb)
              (try clear hb)
              (try clear hb2)
              (try clear hk)
              (try clear hi)
              refine hK.out _ _ ⟨(blk_cell BK253.out 0).trans rfl, (blk_cell BK253.out 1).trans rfl, (blk_cell BK253.out 2).trans rfl, (blk_cell BK253.out 3).trans rfl, (blk_cell BK248.out 0).trans rfl, (blk_cell BK248.out 1).trans rfl, (blk_cell BK248.out 2).trans rfl, (blk_cell BK248.out 3).trans rfl, HS8_, HS9_, HS10_, HS11_⟩ (fun hHeld => ?_); clear hK K; refine norm_ (a' := ?_) ?_ ?_; rotate_left
              ·show Act.put _ (some 56) _ = _
               simp only [Act.put, List.setIfInBounds_toArray, List.set_cons_zero, List.set_cons_succ, i64_w, i32_w]; rfl
              refine zp 7 57 HT_ ?_; refine done_ (done_of HT_.out (by kernel_rfl)) ?_
              try go_wp2
              go_roundg k4
              case measure => have := HJ2.out; have := HK2.out; have := HJ27.out; have := HK4.out; omega
              case rel => exact ⟨(x45_4), (wrap64 (x9_4 + 1)), (wrap64 (x45_4 + 1)), zs, zs, zs, H', ⟨by have := HJ2.out; have := HK2.out; have := HJ27.out; have := HK4.out; omega⟩, ⟨by (with_reducible repeat (first | apply Kd.R_alloc | apply Kd.R_drewN | apply Kd.R_drew)); exact HO_7.out⟩, ⟨by (with_reducible repeat (first | apply Kd.V_alloc | apply Kd.V_drewN | apply Kd.V_drew)); exact Kd.V_mono HO_43.out (fun _ hk => ⟨hk.1, ⟨hk.2.1, ⟨hk.2.2.1, hk.2.2.2.1⟩⟩⟩)⟩, ⟨by (with_reducible repeat (first | apply Kd.V_alloc | apply Kd.V_drewN | apply Kd.V_drew)); exact Kd.V_mono HO_248003.out (fun _ hk => ⟨hk.1, ⟨hk.2.1, ⟨hk.2.2.1, hk.2.2.2.1⟩⟩⟩)⟩, ⟨by (with_reducible repeat (first | apply Kd.V_alloc | apply Kd.V_drewN | apply Kd.V_drew)); exact Kd.V_mono HO_249003.out (fun _ hk => ⟨hk.1, ⟨hk.2.1, ⟨hk.2.2.1, hk.2.2.2.1⟩⟩⟩)⟩, (zA BK247), (zA BK248), ⟨zb⟩⟩
            ·rw [if_neg c46] at H; have c46b0 := decide_eq_false c46; clear c46; by_cases c68 : x9_4 = 1
             ·rw [if_pos c68] at H; have c68b0 : (x9_4 == 1) = true := beq_iff_eq.mpr c68; have c68b1 : (x9_4 != 1) = false := bne_eq_false_iff_eq.mpr c68; clear c68; replace H := zi H; obtain ⟨c69, H⟩ := H; have LMc69 := Aside0.mk c69; clear c69
              obtain ⟨y256, hy256⟩ : ∃ y_ : List Int, y_ = (x7_2 ++ [x8_4]) := ⟨_, rfl⟩
              replace H : (if 0 ≤ x8_4 then (if x8_4 < (x248003_2.length : Int) then (if x8_4 < (x249003_2.length : Int) then (tree_Changed.l0 k4 y256 ((rd_T26 x248003_2 x8_4).f0) ((rd_T26 x248003_2 x8_4).f1.f0) ((rd_T26 x248003_2 x8_4).f1.f1) ((rd_T26 x248003_2 x8_4).f2) ((rd_T26 x249003_2 x8_4).f0) ((rd_T26 x249003_2 x8_4).f1.f0) ((rd_T26 x249003_2 x8_4).f1.f1) ((rd_T26 x249003_2 x8_4).f2)) else (none)) else (none)) else (none)) = some (r1, r2, r3) := by first | (rw [hy256]; with_reducible exact H) | (have H2_ := (Option.bind_some _ _).symm.trans H; rw [hy256]; with_reducible exact H2_) | (have H2_ := (Option.bind_some _ _).symm.trans H; with_reducible exact H2_) | with_reducible exact H | (rw [hy256]; exact H) | exact H
              have Ny256 := Aside0.mk hy256; clear hy256; replace H := zi1 H; obtain ⟨c70b0, H⟩ := H; replace H := zi1 H; obtain ⟨c71b0, H⟩ := H; replace H := zi1 H; obtain ⟨c72b0, H⟩ := H; have H' := Aside0.mk H; clear H
              try go_wp2_with (first | ((with_reducible refine gate_builtin (b := .append) (xs := #[.tmp 64, .tmp 66]) rfl ?_); (try (refine gate_guard (by rfl) ?_; dsimp only)); at_builtin; refine Kd.R_append (Kd.int .i64) (w0 := w) w.heap.size rfl (.tmp 64) (.tmp 66) 30 3 (.int .i64 0) 8 rfl Try.underlying30 info3 rfl (by decide) (by omega) u7 x7_2 x8_4 [.int .i64 x8_4] (fun k_ => (w.heap.size ≤ k_)) (fun _ => False) rfl rfl ?aP (fun _ hk => hk.elim) ?aF ?aO ?aB ?aS ?aL ?_; (case aP => exact rfl); (case aB => exact zb); (case aF => exact (fun k_ hk => (Nat.le_trans (below_size zb) hk))); (case aO => exact (zR HO_7)); (case aS => exact (below_size zb)); (case aL => have := LMc69.out; omega); intro v257 w73 ho hb hg hat; rw [← Ny256.out] at ho; replace HO_43 := Aside0.mk (Kd.V_afterv (ok := (fun k_ => ((P0_3_ k_ ∨ P1_3_ k_) ∨ w.heap.size ≤ k_) ∧ k_ ≠ gb247 ∧ k_ ≠ gb248)) (by (with_reducible repeat (first | apply Kd.V_alloc | apply Kd.V_drewN | apply Kd.V_drew)); exact Kd.V_mono HO_43.out (fun _ hk => ⟨⟨hk.1, ⟨hk.2.2.1, hk.2.2.2⟩⟩, hk.2.1⟩)) hg hat); replace HO_248003 := Aside0.mk (Kd.V_afterv (ok := (fun k_ => ((P0_3_ k_ ∨ P1_3_ k_) ∨ w.heap.size ≤ k_) ∧ k_ ≠ gb247 ∧ k_ ≠ gb248)) (by (with_reducible repeat (first | apply Kd.V_alloc | apply Kd.V_drewN | apply Kd.V_drew)); exact Kd.V_mono HO_248003.out (fun _ hk => ⟨⟨hk.1, ⟨hk.2.2.1, hk.2.2.2⟩⟩, hk.2.1⟩)) hg hat); replace HO_249003 := Aside0.mk (Kd.V_afterv (ok := (fun k_ => ((P0_3_ k_ ∨ P1_3_ k_) ∨ w.heap.size ≤ k_) ∧ k_ ≠ gb247 ∧ k_ ≠ gb248)) (by (with_reducible repeat (first | apply Kd.V_alloc | apply Kd.V_drewN | apply Kd.V_drew)); exact Kd.V_mono HO_249003.out (fun _ hk => ⟨⟨hk.1, ⟨hk.2.2.1, hk.2.2.2⟩⟩, hk.2.1⟩)) hg hat); replace BK247 := (blk_grown' BK247 hg (Kd.R_ne HO_7.out BK247.out (by decide))); replace BK248 := (blk_grown' BK248 hg (Kd.R_ne HO_7.out BK248.out (by decide))); replace HB := Aside0.mk (hb); have HO258 := Aside0.mk (ho); clear HO_7; clear ho hb hg hat))
              replace HO_43 := Aside0.mk (Kd.V_drew HO_43.out); replace HO_248003 := Aside0.mk (Kd.V_drew HO_248003.out); replace HO_249003 := Aside0.mk (Kd.V_drew HO_249003.out); replace HO258 := Aside0.mk (Kd.R_drew HO258.out); replace BK247 := Aside0.mk (blk_drew BK247.out); replace BK248 := Aside0.mk (blk_drew BK248.out); replace HB := Aside0.mk (below_drew1 HB.out); have p259 : 0 ≤ (x8_4 : Int) := zt; have q259 : x8_4 < (x248003_2.length : Int) := zt; obtain ⟨ad259, A259_3, c259_3, e259, hx259_0, hx259_1, hx259_2, hx259_3, hl259_3, hi259_3⟩ := at_T26 (Kd.V_reads' HO_248003.out).2.2 x8_4 p259 q259
              cases e259
              obtain ⟨ce259, hce259, hMe259, hcc259⟩ := Kd.V_get HO_248003.out z26 x8_4 p259 (by first | exact q259 | exact zt | (have e_ := (Kd.V_reads' HO_248003.out).1; omega)); obtain ⟨ua259_3, uc259_3, rfl, ul259_3, ge259_3⟩ := k26_openF hMe259; have hv259_3 := hcc259 3 _ rfl; rw [add_field _ _ 3 (by omega)] at hv259_3; replace hv259_3 := Option.some.inj (hv259_3.symm.trans hx259_3); injection hv259_3 with hva_ hvn_ hvc_; rw [hva_] at ge259_3; rw [hvc_] at ul259_3; have HL259_3 := Aside0.mk (show Kd.V k26 26 _ w.heap.size _ _ ((rd_T26 x248003_2 x8_4).f2) from Kd.V_mk ul259_3 ge259_3); clear hva_ hvn_ hvc_ ge259_3 ul259_3 hcc259 hce259; have HR259_3 := Aside0.mk hi259_3; have HC259_3 := Aside0.mk hl259_3; clear hi259_3 hl259_3; replace p259 := eq_true p259; replace q259 := eq_true q259; obtain ⟨Ao75, co75, eo75⟩ := Kd.V_slice HO_249003.out
              (first | subst eo75 | (injection eo75 with f1_ f2_ f3_; have f4_ := f1_.symm; have f5_ := f3_.symm; clear f1_ f2_ f3_; subst f4_; subst f5_))
              have p260 : 0 ≤ (x8_4 : Int) := zt; have q260 : x8_4 < (x249003_2.length : Int) := zt; obtain ⟨ad260, A260_3, c260_3, e260, hx260_0, hx260_1, hx260_2, hx260_3, hl260_3, hi260_3⟩ := at_T26 (Kd.V_reads' HO_249003.out).2.2 x8_4 p260 q260
              cases e260
              obtain ⟨ce260, hce260, hMe260, hcc260⟩ := Kd.V_get HO_249003.out z26 x8_4 p260 (by first | exact q260 | exact zt | (have e_ := (Kd.V_reads' HO_249003.out).1; omega)); obtain ⟨ua260_3, uc260_3, rfl, ul260_3, ge260_3⟩ := k26_openF hMe260; have hv260_3 := hcc260 3 _ rfl; rw [add_field _ _ 3 (by omega)] at hv260_3; replace hv260_3 := Option.some.inj (hv260_3.symm.trans hx260_3); injection hv260_3 with hva_ hvn_ hvc_; rw [hva_] at ge260_3; rw [hvc_] at ul260_3; have HL260_3 := Aside0.mk (show Kd.V k26 26 _ w.heap.size _ _ ((rd_T26 x249003_2 x8_4).f2) from Kd.V_mk ul260_3 ge260_3); clear hva_ hvn_ hvc_ ge260_3 ul260_3 hcc260 hce260; have HR260_3 := Aside0.mk hi260_3; have HC260_3 := Aside0.mk hl260_3; clear hi260_3 hl260_3; replace p260 := eq_true p260; replace q260 := eq_true q260; refine start_ (n := 12) (S := fun w' => w'.cell? ⟨gb248, 0, none⟩ = some (.int .i64 x249000_2) ∧ w'.cell? ⟨gb248, 1, none⟩ = some (.int .i64 x249001_2) ∧ w'.cell? ⟨gb248, 2, none⟩ = some (.string x249002_2) ∧ w'.cell? ⟨gb248, 3, none⟩ = some (.slice (some ad260) x249003_2.length co75) ∧ w'.cell? (ad260.add ((x8_4).toNat * 4)) = some (.int .i64 ((rd_T26 x249003_2 x8_4).f0)) ∧ w'.cell? ⟨(ad260.add ((x8_4).toNat * 4)).block, (ad260.add ((x8_4).toNat * 4)).off + 1, none⟩ = some (.int .i64 ((rd_T26 x249003_2 x8_4).f1.f0)) ∧ w'.cell? ⟨(ad260.add ((x8_4).toNat * 4)).block, (ad260.add ((x8_4).toNat * 4)).off + 2, none⟩ = some (.string ((rd_T26 x249003_2 x8_4).f1.f1)) ∧ w'.cell? ⟨(ad260.add ((x8_4).toNat * 4)).block, (ad260.add ((x8_4).toNat * 4)).off + 3, none⟩ = some (.slice A260_3 ((rd_T26 x249003_2 x8_4).f2).length c260_3)) (ds := [11]) #[false, false, false, false, false, false, false, false, false, false, false, false] (by kernel_rfl) rfl rfl ⟨(blk_cell BK248.out 0).trans rfl, (blk_cell BK248.out 1).trans rfl, (blk_cell BK248.out 2).trans rfl, (blk_cell BK248.out 3).trans rfl, hx260_0, hx260_1, hx260_2, hx260_3⟩ (fun hHeld => ?_); refine with_tabW tree_Changed.tab16 tree_Changed.bits16 (fun HT_ HW_ => ?_); generalize w73.drew = w74 at HO_43 HO_248003 HO_249003 HO258 BK247 BK248 HB HL259_3 HL260_3 HR259_3 HR260_3 hx259_0 hx259_1 hx259_2 hx259_3 hx260_0 hx260_1 hx260_2 hx260_3 hHeld ⊢; refine zp 0 68 HT_ ?_; refine zp 2 70 HT_ ?_; refine zp 5 73 HT_ ?_; refine zp 7 75 HT_ ?_; refine zy 6 74 HT_ HW_ hHeld ?_; refine zp 8 76 HT_ ?_; refine zy 9 77 HT_ HW_ hHeld ?_; refine one_ (i := 1) (N := some 69) #[true, true, true, false, false, true, true, true, true, true, false, false] rfl rfl (one_of HT_.out (by kernel_rfl)) (by decide) (fun K hK => ?_); obtain ⟨hl0, hl1, hl2, hl3⟩ := zc4 BK247; refine event_step (w1 := w74) (by rfl) (by go_simp; rfl) ?_; refine hK.out _ _ hHeld (fun hHeld => ?_); clear hK K; refine norm_ (a' := ?_) ?_ ?_; rotate_left
              ·show Act.put _ (some 69) _ = _
               simp only [Act.put, List.setIfInBounds_toArray, List.set_cons_zero, List.set_cons_succ, i64_w, i32_w]; rfl
              refine zp 3 71 HT_ ?_; refine one_ (i := 4) (N := some 72) #[true, true, true, true, true, true, true, true, true, true, false, false] rfl rfl (one_of HT_.out (by kernel_rfl)) (by decide) (fun K hK => ?_); refine event_step (w1 := w74) (by rfl) (by go_simp; rfl) ?_; refine hK.out _ _ hHeld (fun hHeld => ?_); clear hK K; refine norm_ (a' := ?_) ?_ ?_; rotate_left
              ·show Act.put _ (some 72) _ = _
               simp only [Act.put, List.setIfInBounds_toArray, List.set_cons_zero, List.set_cons_succ, i64_w, i32_w]; rfl
              refine one_ (i := 10) (N := none) #[true, true, true, true, true, true, true, true, true, true, true, false] rfl rfl (one_of HT_.out (by kernel_rfl)) (by decide) (fun K hK => ?_); have hs76 : w74.cell? ⟨gb247, 0, none⟩ = some (.int .i64 x248000_2) := (blk_cell BK247.out 0).trans rfl; have hfs76 := blk_frozen BK247.out 0; have hns76_1 := NB248_247.out; have hms76_1 := NB247_248.out; have hs77 : w74.cell? ⟨gb247, 1, none⟩ = some (.int .i64 x248001_2) := (blk_cell BK247.out 1).trans rfl; have hfs77 := blk_frozen BK247.out 1; have hns77_1 := NB248_247.out; have hms77_1 := NB247_248.out; have hs78 : w74.cell? ⟨gb247, 2, none⟩ = some (.string x248002_2) := (blk_cell BK247.out 2).trans rfl; have hfs78 := blk_frozen BK247.out 2; have hns78_1 := NB248_247.out; have hms78_1 := NB247_248.out; have hs79 : w74.cell? ⟨gb247, 3, none⟩ = some (.slice (some ad259) x248003_2.length co45) := (blk_cell BK247.out 3).trans rfl; have hfs79 := blk_frozen BK247.out 3; have hns79_1 := NB248_247.out; have hms79_1 := NB247_248.out; refine skip_ (w1 := ?_) (by rfl) rfl ?_ ?_; rotate_left
              ·go_simp; rfl
              have hoff : ad260.block ≠ gb247 := tree_Changed.V_off HO_249003.out (fun _ hk => by first | exact hk | exact hk.1 | exact hk.2 | exact hk.1.1 | exact hk.1.2 | exact hk.2.1 | exact hk.2.2 | exact hk.1.1.1 | exact hk.1.1.2 | exact hk.1.2.1 | exact hk.1.2.2 | exact hk.2.1.1 | exact hk.2.1.2 | exact hk.2.2.1 | exact hk.2.2.2) (by have hp_ := of_eq_true p260; have hq_ := of_eq_true q260; omega); refine hK.out _ _ ⟨tree_Changed.far4 NB248_247.out hHeld.1, tree_Changed.far4 NB248_247.out hHeld.2.1, tree_Changed.far4 NB248_247.out hHeld.2.2.1, tree_Changed.far4 NB248_247.out hHeld.2.2.2.1, tree_Changed.far4 (tree_Changed.blk hoff) hHeld.2.2.2.2.1, tree_Changed.far4 (tree_Changed.blk hoff) hHeld.2.2.2.2.2.1, tree_Changed.far4 (tree_Changed.blk hoff) hHeld.2.2.2.2.2.2.1, tree_Changed.far4 (tree_Changed.blk hoff) hHeld.2.2.2.2.2.2.2⟩ (fun hHeld => ?_); clear hK K; refine last_ (i := 11) (N := none) #[true, true, true, true, true, true, true, true, true, true, true, true] rfl rfl (one_of HT_.out (by kernel_rfl)) (by decide) (fun K hK => ?_); have hs80 : w74.cell? ⟨gb248, 0, none⟩ = some (.int .i64 x249000_2) := (blk_cell BK248.out 0).trans rfl; have hfs80 := blk_frozen BK248.out 0; have hns80_0 := NB247_248.out; have hms80_0 := NB248_247.out; have hs81 : w74.cell? ⟨gb248, 1, none⟩ = some (.int .i64 x249001_2) := (blk_cell BK248.out 1).trans rfl; have hfs81 := blk_frozen BK248.out 1; have hns81_0 := NB247_248.out; have hms81_0 := NB248_247.out; have hs82 : w74.cell? ⟨gb248, 2, none⟩ = some (.string x249002_2) := (blk_cell BK248.out 2).trans rfl; have hfs82 := blk_frozen BK248.out 2; have hns82_0 := NB247_248.out; have hms82_0 := NB248_247.out; have hs83 : w74.cell? ⟨gb248, 3, none⟩ = some (.slice (some ad260) x249003_2.length co75) := (blk_cell BK248.out 3).trans rfl; have hfs83 := blk_frozen BK248.out 3; have hns83_0 := NB247_248.out; have hms83_0 := NB248_247.out; refine skip_ (w1 := ?_) (by rfl) rfl ?_ ?_; rotate_left
              ·go_simp; rfl
              refine hK.out _ _ ?_; clear hK K; refine done_ (done_of HT_.out (by kernel_rfl)) ?_
              try go_wp2
              go_roundg k4
              case measure => have := HJ2.out; have := HK2.out; have := HJ27.out; have := HK4.out; omega
              case rel => exact ⟨(y256), ((rd_T26 x248003_2 x8_4).f0), ((rd_T26 x248003_2 x8_4).f1.f0), ((rd_T26 x248003_2 x8_4).f1.f1), ((rd_T26 x248003_2 x8_4).f2), ((rd_T26 x249003_2 x8_4).f0), ((rd_T26 x249003_2 x8_4).f1.f0), ((rd_T26 x249003_2 x8_4).f1.f1), ((rd_T26 x249003_2 x8_4).f2), (.slice A259_3 ((rd_T26 x248003_2 x8_4).f2).length c259_3), (.slice A260_3 ((rd_T26 x249003_2 x8_4).f2).length c260_3), H', ⟨by have := HJ2.out; have := HK2.out; have := HJ27.out; have := HK4.out; omega⟩, ⟨by (with_reducible repeat (first | apply Kd.R_alloc | apply Kd.R_drewN | apply Kd.R_drew)); exact Kd.R_mono (Kd.R_far (p := ⟨gb248, 3, none⟩) (Kd.R_far (p := ⟨gb248, 2, none⟩) (Kd.R_far (p := ⟨gb248, 1, none⟩) (Kd.R_far (p := ⟨gb248, 0, none⟩) (Kd.R_far (p := ⟨gb247, 3, none⟩) (Kd.R_far (p := ⟨gb247, 2, none⟩) (Kd.R_far (p := ⟨gb247, 1, none⟩) (Kd.R_far (p := ⟨gb247, 0, none⟩) (Kd.R_types (Kd.R_types HO258.out BK247.out (by decide)) BK248.out (by decide)) (fun _ hk => hk.1.2) (.int .i64 ((rd_T26 x248003_2 x8_4).f0))) (fun _ hk => hk.1.2) (.int .i64 ((rd_T26 x248003_2 x8_4).f1.f0))) (fun _ hk => hk.1.2) (.string ((rd_T26 x248003_2 x8_4).f1.f1))) (fun _ hk => hk.1.2) (.slice A259_3 ((rd_T26 x248003_2 x8_4).f2).length c259_3)) (fun _ hk => hk.2) (.int .i64 ((rd_T26 x249003_2 x8_4).f0))) (fun _ hk => hk.2) (.int .i64 ((rd_T26 x249003_2 x8_4).f1.f0))) (fun _ hk => hk.2) (.string ((rd_T26 x249003_2 x8_4).f1.f1))) (fun _ hk => hk.2) (.slice A260_3 ((rd_T26 x249003_2 x8_4).f2).length c260_3)) (fun _ hk => hk.1.1)⟩, ⟨by (with_reducible repeat (first | apply Kd.V_alloc | apply Kd.V_drewN | apply Kd.V_drew)); exact Kd.V_mono (Kd.V_far (p := ⟨gb248, 3, none⟩) (Kd.V_far (p := ⟨gb248, 2, none⟩) (Kd.V_far (p := ⟨gb248, 1, none⟩) (Kd.V_far (p := ⟨gb248, 0, none⟩) (Kd.V_far (p := ⟨gb247, 3, none⟩) (Kd.V_far (p := ⟨gb247, 2, none⟩) (Kd.V_far (p := ⟨gb247, 1, none⟩) (Kd.V_far (p := ⟨gb247, 0, none⟩) (Kd.V_mono (Kd.V_mono HL259_3.out (fun k_ hk => (⟨hk, hk.1.2.1⟩ : _ ∧ k_ ≠ gb247))) (fun k_ hk => (⟨hk, hk.1.1.2.2⟩ : _ ∧ k_ ≠ gb248))) (fun _ hk => hk.1.2) (.int .i64 ((rd_T26 x248003_2 x8_4).f0))) (fun _ hk => hk.1.2) (.int .i64 ((rd_T26 x248003_2 x8_4).f1.f0))) (fun _ hk => hk.1.2) (.string ((rd_T26 x248003_2 x8_4).f1.f1))) (fun _ hk => hk.1.2) (.slice A259_3 ((rd_T26 x248003_2 x8_4).f2).length c259_3)) (fun _ hk => hk.2) (.int .i64 ((rd_T26 x249003_2 x8_4).f0))) (fun _ hk => hk.2) (.int .i64 ((rd_T26 x249003_2 x8_4).f1.f0))) (fun _ hk => hk.2) (.string ((rd_T26 x249003_2 x8_4).f1.f1))) (fun _ hk => hk.2) (.slice A260_3 ((rd_T26 x249003_2 x8_4).f2).length c260_3)) (fun _ hk => ⟨hk.1.1.1.1, ⟨hk.1.1.2, ⟨hk.1.1.1.2.1, hk.1.1.1.2.2⟩⟩⟩)⟩, ⟨by (with_reducible repeat (first | apply Kd.V_alloc | apply Kd.V_drewN | apply Kd.V_drew)); exact Kd.V_mono (Kd.V_far (p := ⟨gb248, 3, none⟩) (Kd.V_far (p := ⟨gb248, 2, none⟩) (Kd.V_far (p := ⟨gb248, 1, none⟩) (Kd.V_far (p := ⟨gb248, 0, none⟩) (Kd.V_far (p := ⟨gb247, 3, none⟩) (Kd.V_far (p := ⟨gb247, 2, none⟩) (Kd.V_far (p := ⟨gb247, 1, none⟩) (Kd.V_far (p := ⟨gb247, 0, none⟩) (Kd.V_mono (Kd.V_mono HL260_3.out (fun k_ hk => (⟨hk, hk.1.2.1⟩ : _ ∧ k_ ≠ gb247))) (fun k_ hk => (⟨hk, hk.1.1.2.2⟩ : _ ∧ k_ ≠ gb248))) (fun _ hk => hk.1.2) (.int .i64 ((rd_T26 x248003_2 x8_4).f0))) (fun _ hk => hk.1.2) (.int .i64 ((rd_T26 x248003_2 x8_4).f1.f0))) (fun _ hk => hk.1.2) (.string ((rd_T26 x248003_2 x8_4).f1.f1))) (fun _ hk => hk.1.2) (.slice A259_3 ((rd_T26 x248003_2 x8_4).f2).length c259_3)) (fun _ hk => hk.2) (.int .i64 ((rd_T26 x249003_2 x8_4).f0))) (fun _ hk => hk.2) (.int .i64 ((rd_T26 x249003_2 x8_4).f1.f0))) (fun _ hk => hk.2) (.string ((rd_T26 x249003_2 x8_4).f1.f1))) (fun _ hk => hk.2) (.slice A260_3 ((rd_T26 x249003_2 x8_4).f2).length c260_3)) (fun _ hk => ⟨hk.1.1.1.1, ⟨hk.1.1.2, ⟨hk.1.1.1.2.1, hk.1.1.1.2.2⟩⟩⟩)⟩, ⟨zw⟩, ⟨zw⟩, ⟨zb⟩⟩
             ·rw [if_neg c68] at H; have c68b0 : (x9_4 == 1) = false := beq_eq_false_iff_ne.mpr c68; have c68b1 : (x9_4 != 1) = true := bne_iff_ne.mpr c68; simp only [Option.some.injEq, Prod.mk.injEq] at H; obtain ⟨rfl, rfl, rfl⟩ := H; go_wp2
              go_ret3
              exact ⟨_, zr, by (with_reducible repeat (first | apply Kd.R_alloc | apply Kd.R_drewN | apply Kd.R_drew)); exact HO_7.out, zb⟩
         ·replace c42 := Bool.eq_false_iff.mpr c42; subst c42; replace H := zf H; simp only [Option.some.injEq, Prod.mk.injEq] at H; obtain ⟨rfl, rfl, rfl⟩ := H; go_wp2
          go_ret3
          exact ⟨_, zr, by (with_reducible repeat (first | apply Kd.R_alloc | apply Kd.R_drewN | apply Kd.R_drew)); exact HO_7.out, zb⟩
theorem tree_Changed.calls (k : Nat) (a0_0 : Int) (a0_1 : Int) (a0_2 : ByteArray) (A0_3 : Option Addr) (c0_3 : Nat) (l0_3 : List (S26)) (a1_0 : Int) (a1_1 : Int) (a1_2 : ByteArray) (A1_3 : Option Addr) (c1_3 : Nat) (l1_3 : List (S26)) (r1 : List Int) (r2 : Bool) (r3 : Int) (w : World) (hr0_3 : Kd.C k26 w A0_3 l0_3.length l0_3) (hc0_3 : l0_3.length ≤ c0_3) (hr1_3 : Kd.C k26 w A1_3 l1_3.length l1_3) (hc1_3 : l1_3.length ≤ c1_3) (h : tree_Changed.f k a0_0 a0_1 a0_2 l0_3 a1_0 a1_1 a1_2 l1_3 = some (r1, r2, r3)) :
  Calls Try.prog 35 #[.agg #[.int .i64 a0_0, .int .i64 a0_1, .string a0_2, .slice A0_3 l0_3.length c0_3], .agg #[.int .i64 a1_0, .int .i64 a1_1, .string a1_2, .slice A1_3 l1_3.length c1_3]] w fun e w' => ∃ v0_ : Value, e = .returned (.tuple #[v0_, .bool r2, .int .i64 r3]) ∧ Kd.R (Kd.int .i64) 3 w' w.heap.size (fun _ => True) v0_ r1 ∧ Below w.heap.size w w' :=
 (tree_Changed.callsV k a0_0 a0_1 a0_2 (fun k_ => k_ < w.heap.size) A0_3 c0_3 l0_3 a1_0 a1_1 a1_2 (fun k_ => k_ < w.heap.size) A1_3 c1_3 l1_3 r1 r2 r3 w (Kd.V_mk hc0_3 (Kd.C_F k26_heap hr0_3)) (Kd.V_mk hc1_3 (Kd.C_F k26_heap hr1_3)) h).mono fun e w' ⟨v, he, hR, hb⟩ => ⟨v, he, Kd.R_mono hR (fun _ _ => trivial), hb⟩

end Go.Proofs.Ytnafnieocpkkhaa.P

