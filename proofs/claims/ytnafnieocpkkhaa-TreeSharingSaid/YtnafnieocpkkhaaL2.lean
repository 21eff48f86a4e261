/- What the claim's row needs of the seat's texts, part 2: put together by a program of this session (declarations that no text of the claim names are left out). -/
import Derived.RangeFuncNested
import Derived.RangeFuncBound
import Derived.RangeFuncCalls
import Derived.RangeFuncLeaves
import Derived.Shelf.Abstract
import Derived.Shelf.RegionOpen
import Derived.OwnWalkIn
import Derived.TacticsInMore
import Derived.LoopNIn
import Derived.LoopIn
import Derived.Maps.AppendAt
import Derived.Test.YtnafnieocpkkhaaL1
namespace Go.Proofs.Ytnafnieocpkkhaa.P
open Go.RowKit Go.Proofs.YtnafnieocpkkhaaW.PrintWords Go.Proofs.YtnafnieocpkkhaaW.PrintLast Go.Proofs.YtnafnieocpkkhaaW.PrintMore
attribute [local go_sem] max2_int min2_int max_two min_two max_three min_three max_four min_four
set_option linter.unusedVariables false
set_option linter.unusedSimpArgs false

/-! ### marginaliaref03_One: function 88 -/
def marginaliaref03_One.f (a0_0 : Int) (a0_1 : ByteArray) : Option (Int × ByteArray) := if 0 ≤ (mn (a0_1.size : Int) 20001) then (if (mn (a0_1.size : Int) 20001) ≤ (a0_1.size : Int) then (some (a0_0, a0_1.extract 0 ((mn (a0_1.size : Int) 20001) : Int).toNat)) else (none)) else (none)
def marginaliaref03_One.T1 : Bool × List (List Nat × List Nat) := (true, [([], []), ([0], [0]), ([], []), ([2], [2]), ([], []), ([4], [4]), ([5], [5]), ([6], [6]), ([3, 7], [3, 7]), ([1, 8], [1, 8]), ([9, 0, 1, 2, 3, 4, 5, 6, 7, 8, 9], [9])])
def marginaliaref03_One.B1 : List Nat := [0, 1, 0, 4, 0, 16, 48, 112, 252, 511, 1023]
theorem marginaliaref03_One.tab1 : rtab .any (opsOf Try.f88 1) = marginaliaref03_One.T1 := by kernel_rfl
theorem marginaliaref03_One.bits1 : waitsOk marginaliaref03_One.T1.2 marginaliaref03_One.B1 = true := by kernel_rfl
set_option maxHeartbeats 8000000 in
set_option maxRecDepth 100000 in
theorem marginaliaref03_One.calls (a0_0 : Int) (a0_1 : ByteArray) (r1 : Int) (r2 : ByteArray) (w : World) (h : marginaliaref03_One.f a0_0 a0_1 = some (r1, r2)) :
  Calls Try.prog 88 #[.agg #[.int .i64 a0_0, .string a0_1]] w fun e w' => e = .returned (.agg #[.int .i64 r1, .string r2]) ∧ Below w.heap.size w w' := by
 have hu23 := Try.underlying23; have HB := Aside0.mk (Below.refl w.heap.size w); have H : (if 0 ≤ (mn (a0_1.size : Int) 20001) then (if (mn (a0_1.size : Int) 20001) ≤ (a0_1.size : Int) then (some (a0_0, a0_1.extract 0 ((mn (a0_1.size : Int) 20001) : Int).toNat)) else (none)) else (none)) = some (r1, r2) := h; clear h
 obtain ⟨ji2, hji2⟩ : ∃ j_ : Int, (mn (a0_1.size : Int) 20001) = j_ := ⟨_, rfl⟩
 replace H : (if 0 ≤ (ji2) then (if (ji2) ≤ (a0_1.size : Int) then (some (a0_0, a0_1.extract 0 ((ji2) : Int).toNat)) else (none)) else (none)) = some (r1, r2) := by first | (rw [hji2] at H; exact H) | (simp only [hji2] at H ⊢; exact H)
 (try (have hji2h : ji2 ≤ 20001 := by (rw [← hji2]; unfold mn; (repeat' split) <;> omega)))
 (try (have hji2g : ji2 ≤ 64 := by omega))
 (try (have hji2l : 0 ≤ ji2 := by (rw [← hji2]; unfold mn; (repeat' split) <;> omega)))
 (try (have hji2m : 0 ≤ ji2 := by omega))
 have hji2_ : (if 20001 < (a0_1.size : Int) then 20001 else (a0_1.size : Int)) = ji2 := hji2; replace H := zi2 H; obtain ⟨c3b0, c3b1, H⟩ := H; replace H := zi2 H; obtain ⟨c4b0, c4b1, H⟩ := H; simp only [Option.some.injEq, Prod.mk.injEq] at H; obtain ⟨rfl, rfl⟩ := H; go_enter Try.func88, Try.ntmps88
 try go_wp2_with (first | ((with_reducible refine zD 1 rfl ?_); refine zx 1 #[.int .i64 a0_0, .string a0_1] 23 ?_; intro gb101 hg w5 hbox hb; have BK101 := Aside0.mk (hbox); have GW101 := (zq hg : Aside0 (w.heap.size ≤ gb101)); have GE101 := GW101; replace HB := (zB hb); clear hb hbox hg) | ((with_reducible refine zD 2 rfl ?_); refine zx 2 #[.int .i64 0, .string (⟨#[]⟩ : ByteArray)] 23 ?_; intro gb102 hg w6 hbox hb; have BK102 := Aside0.mk (hbox); have GW102 := (zq hg : Aside0 (w.heap.size ≤ gb102)); have GE102 := GW102; replace HB := (zB hb); have NB101_102 := (zl hg BK101 : Aside0 (gb101 ≠ gb102)); have NB102_101 := (zl' hg BK101 : Aside0 (gb102 ≠ gb101)); replace BK101 := (zK BK101 hb); clear hb hbox hg))
 replace BK101 := Aside0.mk (blk_drew BK101.out); replace BK102 := Aside0.mk (blk_drew BK102.out); replace HB := Aside0.mk (below_drew1 HB.out); refine start_ (n := 11) (S := fun w' => w'.cell? ⟨gb101, 0, none⟩ = some (.int .i64 a0_0) ∧ w'.cell? ⟨gb101, 1, none⟩ = some (.string a0_1)) (ds := []) #[false, false, false, false, false, false, false, false, false, false, false] (by kernel_rfl) rfl rfl ⟨(blk_cell BK101.out 0).trans rfl, (blk_cell BK101.out 1).trans rfl⟩ (fun hHeld => ?_); refine with_tabW marginaliaref03_One.tab1 marginaliaref03_One.bits1 (fun HT_ HW_ => ?_); generalize w6.drew = w7 at BK101 BK102 HB hHeld ⊢; refine zp 0 3 HT_ ?_; refine zp 2 5 HT_ ?_; refine zp 4 7 HT_ ?_; refine zy 1 4 HT_ HW_ hHeld ?_; refine zy 3 6 HT_ HW_ hHeld ?_; refine zy 5 8 HT_ HW_ hHeld ?_; refine zp 6 9 HT_ ?_; refine zp 7 10 HT_ ?_; refine zp 8 11 HT_ ?_; refine zp 9 12 HT_ ?_; refine one_ (i := 10) (N := none) #[true, true, true, true, true, true, true, true, true, true, true] rfl rfl (one_of HT_.out (by kernel_rfl)) (by decide) (fun K hK => ?_); have hs8 : w7.cell? ⟨gb102, 0, none⟩ = some (.int .i64 0) := (blk_cell BK102.out 0).trans rfl; have hfs8 := blk_frozen BK102.out 0; have hns8_0 := NB101_102.out; have hms8_0 := NB102_101.out; have hs9 : w7.cell? ⟨gb102, 1, none⟩ = some (.string (⟨#[]⟩ : ByteArray)) := (blk_cell BK102.out 1).trans rfl; have hfs9 := blk_frozen BK102.out 1; have hns9_0 := NB101_102.out; have hms9_0 := NB102_101.out; refine skip_ (w1 := ?_) (by rfl) rfl ?_ ?_; rotate_left
 ·go_simp; rfl
 refine hK.out _ _ ⟨((cell_far (p := ⟨gb102, _, none⟩) NB101_102.out _).trans (((cell_far (p := ⟨gb102, _, none⟩) NB101_102.out _).trans (hHeld.1)))), ((cell_far (p := ⟨gb102, _, none⟩) NB101_102.out _).trans (((cell_far (p := ⟨gb102, _, none⟩) NB101_102.out _).trans (hHeld.2))))⟩ (fun hHeld => ?_); clear hK K; refine done_ (done_of HT_.out (by kernel_rfl)) ?_
 try go_wp2
 refine bodyPost_ret (results_cell_row rfl _ _ gb102 23 #[.int .i64 a0_0, .string (a0_1.extract 0 ((ji2) : Int).toNat)] (0, 0) _ rfl zw Try.underlying23 rfl (by kernel_rfl)) rfl ?_; exact ⟨by first | rfl | (simp [errW_none, errW_some] <;> rfl) | (simp only [← hji2]; first | rfl | (simp [errW_none, errW_some] <;> rfl)) | (simp [*, errW_none, errW_some] <;> rfl), zb⟩

/-! ### marginaliaref05_cut: function 70 -/
mutual
def marginaliaref05_cut.l0 : Nat → Int → Int → Int → Int → Int → ByteArray → List (S26) → Int → Int → ByteArray → List (S26) → Option (Int × Int × ByteArray × (List (S26)) × Int)
 | 0, _, _, _, _, _, _, _, _, _, _, _ => none
 | k + 1, x2, x9, x10, x104000, x104001, x104002, x104003, x108000, x108001, x108002, x108003 => if x10 < (x104003.length : Int) then (if x9 > 0 then (if x2 ≤ 1002 then (if 0 ≤ x10 then ((marginaliaref05_cut.f k ((rd_T26 x104003 x10).f0) ((rd_T26 x104003 x10).f1.f0) ((rd_T26 x104003 x10).f1.f1) ((rd_T26 x104003 x10).f2) x9 (wrap64 (x2 + 1))).bind fun bt109 => (if x108003.length < 2513169434916 then (marginaliaref05_cut.l0 k x2 bt109.2.2.2.2 (wrap64 (x10 + 1)) x104000 x104001 x104002 x104003 x108000 x108001 x108002 (x108003 ++ [(⟨bt109.1, (⟨bt109.2.1, bt109.2.2.1⟩ : S23), bt109.2.2.2.1⟩ : S26)])) else (none))) else (none)) else (some (x108000, x108001, x108002, x108003, x9))) else (some (x108000, x108001, x108002, x108003, x9))) else (some (x108000, x108001, x108002, x108003, x9))
def marginaliaref05_cut.f : Nat → Int → Int → ByteArray → List (S26) → Int → Int → Option (Int × Int × ByteArray × (List (S26)) × Int)
 | 0, _, _, _, _, _, _ => none
 | k + 1, a0_0, a0_1, a0_2, l0_3, a1, a2 => (marginaliaref03_One.f a0_1 a0_2).bind fun bt105 => (marginaliaref05_cut.l0 k a2 (wrap64 (a1 - 1)) 0 a0_0 a0_1 a0_2 l0_3 a0_0 bt105.1 bt105.2 ([] : List (S26)))
end
def marginaliaref05_cut.T1 : Bool × List (List Nat × List Nat) := (true, [([], []), ([0], [0]), ([], []), ([2], [2]), ([3], [3]), ([1, 4], [1, 4]), ([], []), ([6, 5, 4, 0, 1, 2, 3, 4, 5, 6], [5, 6])])
def marginaliaref05_cut.B1 : List Nat := [0, 1, 0, 4, 12, 31, 0, 127]
theorem marginaliaref05_cut.tab1 : rtab .any (opsOf Try.f70 1) = marginaliaref05_cut.T1 := by kernel_rfl
theorem marginaliaref05_cut.bits1 : waitsOk marginaliaref05_cut.T1.2 marginaliaref05_cut.B1 = true := by kernel_rfl
set_option maxHeartbeats 8000000 in
set_option maxRecDepth 100000 in
theorem marginaliaref05_cut.calls (k : Nat) : ∀ (a0_0 : Int) (a0_1 : Int) (a0_2 : ByteArray) (A0_3 : Option Addr) (c0_3 : Nat) (l0_3 : List (S26)) (a1 : Int) (a2 : Int) (r1 : Int) (r2 : Int) (r3 : ByteArray) (r4 : List (S26)) (r5 : Int) (w : World) (hr0_3 : Kd.C k26 w A0_3 l0_3.length l0_3) (hc0_3 : l0_3.length ≤ c0_3) (h : marginaliaref05_cut.f k a0_0 a0_1 a0_2 l0_3 a1 a2 = some (r1, r2, r3, r4, r5)),
  Calls Try.prog 70 #[.agg #[.int .i64 a0_0, .int .i64 a0_1, .string a0_2, .slice A0_3 l0_3.length c0_3], .int .i64 a1, .int .i64 a2] w fun e w' => ∃ v3_ : Value, e = .returned (.tuple #[.agg #[.int .i64 r1, .int .i64 r2, .string r3, v3_], .int .i64 r5]) ∧ Kd.R k26 26 w' w.heap.size (fun _ => True) v3_ r4 ∧ Below w.heap.size w w' := by
 induction k using Nat.strongRecOn with
 | _ k ih =>
 intro a0_0 a0_1 a0_2 A0_3 c0_3 l0_3 a1 a2 r1 r2 r3 r4 r5 w hr0_3 hc0_3 h
 cases k with
 | zero => exact absurd h (by simp [marginaliaref05_cut.f])
 | succ k =>
 simp only [marginaliaref05_cut.f] at h; have hu26 := Try.underlying26; have hu23 := Try.underlying23; have HR0_3 := Aside0.mk hr0_3; have HC0_3 := Aside0.mk hc0_3; clear hr0_3 hc0_3; have HB := Aside0.mk (Below.refl w.heap.size w); have H : ((marginaliaref03_One.f a0_1 a0_2).bind fun bt105 => (marginaliaref05_cut.l0 k a2 (wrap64 (a1 - 1)) 0 a0_0 a0_1 a0_2 l0_3 a0_0 bt105.1 bt105.2 ([] : List (S26)))) = some (r1, r2, r3, r4, r5) := h; clear h; replace H := Option.bind_eq_some_iff.mp H; obtain ⟨⟨t105, t106⟩, A40, H⟩ := H; replace H : (marginaliaref05_cut.l0 k a2 (wrap64 (a1 - 1)) 0 a0_0 a0_1 a0_2 l0_3 a0_0 t105 t106 ([] : List (S26))) = some (r1, r2, r3, r4, r5) := H; have A4 := Aside0.mk A40; clear A40; have H' := Aside0.mk H; clear H; go_enter Try.func70, Try.ntmps70
 try go_wp2_with (first | ((with_reducible refine zD 3 rfl ?_); refine zx 3 #[.int .i64 a0_0, .int .i64 a0_1, .string a0_2, .slice A0_3 l0_3.length c0_3] 26 ?_; intro gb103 hg w5 hbox hb; have BK103 := Aside0.mk (hbox); have GW103 := (zq hg : Aside0 (w.heap.size ≤ gb103)); have GE103 := GW103; replace HB := (zB hb); clear hb hbox hg) | ((with_reducible refine zD 6 rfl ?_); refine zx 6 #[.int .i64 0, .int .i64 0, .string (⟨#[]⟩ : ByteArray), .slice none 0 0] 26 ?_; intro gb104 hg w6 hbox hb; have BK104 := Aside0.mk (hbox); have GW104 := (zq hg : Aside0 (w.heap.size ≤ gb104)); have GE104 := GW104; replace HB := (zB hb); have NB103_104 := (zl hg BK103 : Aside0 (gb103 ≠ gb104)); have NB104_103 := (zl' hg BK103 : Aside0 (gb104 ≠ gb103)); replace BK103 := (zK BK103 hb); clear hb hbox hg))
 replace BK103 := Aside0.mk (blk_drew BK103.out); replace BK104 := Aside0.mk (blk_drew BK104.out); replace HB := Aside0.mk (below_drew1 HB.out); refine start_ (n := 8) (S := fun w' => w'.cell? ⟨gb103, 0, none⟩ = some (.int .i64 a0_0) ∧ w'.cell? ⟨gb103, 1, none⟩ = some (.int .i64 a0_1) ∧ w'.cell? ⟨gb103, 2, none⟩ = some (.string a0_2) ∧ w'.cell? ⟨gb103, 3, none⟩ = some (.slice A0_3 l0_3.length c0_3)) (ds := []) #[false, false, false, false, false, false, false, false] (by kernel_rfl) rfl rfl ⟨(blk_cell BK103.out 0).trans rfl, (blk_cell BK103.out 1).trans rfl, (blk_cell BK103.out 2).trans rfl, (blk_cell BK103.out 3).trans rfl⟩ (fun hHeld => ?_); refine with_tabW marginaliaref05_cut.tab1 marginaliaref05_cut.bits1 (fun HT_ HW_ => ?_); generalize w6.drew = w7 at BK103 BK104 HB hHeld ⊢; refine zp 0 13 HT_ ?_; refine zp 2 15 HT_ ?_; refine zy 1 14 HT_ HW_ hHeld ?_; refine zy 3 16 HT_ HW_ hHeld ?_; refine join_ (σ := Nat) 1 #[true, true, true, true, true, true, true, false] (fun s_ => [(17, .agg #[.int .i64 t105, .string t106]), (8, .pointer (some ⟨s_, 0, none⟩)), (18, .agg #[.int .i64 a0_0, .int .i64 t105, .string t106, .slice none 0 0])]) (fun s_ w' => (w'.cell? ⟨gb103, 0, none⟩ = some (.int .i64 a0_0) ∧ w'.cell? ⟨gb103, 1, none⟩ = some (.int .i64 a0_1) ∧ w'.cell? ⟨gb103, 2, none⟩ = some (.string a0_2) ∧ w'.cell? ⟨gb103, 3, none⟩ = some (.slice A0_3 l0_3.length c0_3)) ∧ (w'.heap[gb103]? = some (.cells #[.int .i64 a0_0, .int .i64 a0_1, .string a0_2, .slice A0_3 l0_3.length c0_3] 26 (0, 0))) ∧ (w'.heap[gb104]? = some (.cells #[.int .i64 0, .int .i64 0, .string (⟨#[]⟩ : ByteArray), .slice none 0 0] 26 (0, 0))) ∧ (w'.heap[s_]? = some (.cells #[.int .i64 0, .int .i64 0, .string (⟨#[]⟩ : ByteArray), .slice none 0 0] 26 (0, 0))) ∧ (w.heap.size ≤ s_) ∧ (w.heap.size ≤ s_) ∧ (gb103 ≠ s_) ∧ (s_ ≠ gb103) ∧ (gb104 ≠ s_) ∧ (s_ ≠ gb104) ∧ (Below w.heap.size w w')) ?_ ?_; rotate_left
 ·intro hCont; refine two_ (i := 4) (j := 6) (Ni := some 17) (Nj := some 8) #[true, true, true, true, true, false, false, false] #[true, true, true, true, false, false, true, false] rfl rfl rfl rfl (two_of HT_.out (by kernel_rfl)) (by decide) (by decide) (fun K hK => ?_) (fun K hK => ?_)
  ·skip
   refine goes_ Try.func88 (by kernel_rfl) rfl #[.agg #[.int .i64 a0_1, .string a0_2]] (by rfl) rfl rfl (by (try simp only [List.map_toArray, List.map_cons, List.map_nil]); first | done | rfl | (simp only [List.length_drop, List.length_take]; rfl)) ?_
   with_reducible refine (marginaliaref03_One.calls a0_1 a0_2 t105 t106 _ A4.out).mono ?_
   rintro e w8 ⟨rfl, hb⟩; refine ⟨_, rfl, ?_⟩
   replace BK103 := (zK BK103 hb)
   replace BK104 := (zK BK104 hb)
   replace HB := (zB hb)
   (try clear hb)
   (try clear hb2)
   (try clear hk)
   (try clear hi)
   refine hK.out _ _ ⟨(blk_cell BK103.out 0).trans rfl, (blk_cell BK103.out 1).trans rfl, (blk_cell BK103.out 2).trans rfl, (blk_cell BK103.out 3).trans rfl⟩ (fun hHeld => ?_); clear hK K; refine norm_ (a' := ?_) ?_ ?_; rotate_left
   ·show Act.put _ (some 17) _ = _
    simp only [Act.put, List.setIfInBounds_toArray, List.set_cons_zero, List.set_cons_succ, i64_w, i32_w]; rfl
   refine zp 5 18 HT_ ?_; refine one_ (i := 6) (N := some 8) #[true, true, true, true, true, true, true, false] rfl rfl (one_of HT_.out (by kernel_rfl)) (by decide) (fun K hK => ?_); refine box_step ?hg (N := 8) ?hd (cs := #[.int .i64 0, .int .i64 0, .string (⟨#[]⟩ : ByteArray), .slice none 0 0]) (t := 26) ?hr ?_; (case hd => rfl); (case hg => rfl); (case hr => first | (go_simp; done) | (go_simp; rfl)); intro gb107 hg w9 hbox hb; have BK107 := Aside0.mk (hbox)
   have GW107 := (zq hg : Aside0 (w.heap.size ≤ gb107))
   have GE107 := (zq hg : Aside0 (w.heap.size ≤ gb107))
   replace HB := (zB hb)
   have NB103_107 := (zl hg BK103 : Aside0 (gb103 ≠ gb107))
   have NB107_103 := (zl' hg BK103 : Aside0 (gb107 ≠ gb103))
   replace BK103 := (zK BK103 hb)
   have NB104_107 := (zl hg BK104 : Aside0 (gb104 ≠ gb107))
   have NB107_104 := (zl' hg BK104 : Aside0 (gb107 ≠ gb104))
   replace BK104 := (zK BK104 hb)
   clear hb hbox hg; refine hK.out _ _ ⟨(blk_cell BK103.out 0).trans rfl, (blk_cell BK103.out 1).trans rfl, (blk_cell BK103.out 2).trans rfl, (blk_cell BK103.out 3).trans rfl⟩ (fun hHeld => ?_); clear hK K; refine norm_ (a' := ?_) ?_ ?_; rotate_left
   ·show Act.put _ (some 8) _ = _
    simp only [Act.put, List.setIfInBounds_toArray, List.set_cons_zero, List.set_cons_succ, i64_w, i32_w]; rfl
   exact norm_ (by simp only [putAll, Act.put, List.setIfInBounds_toArray, List.set_cons_zero, List.set_cons_succ]) (hCont (gb107) _ ⟨hHeld, (Cl.blk BK103.out), (Cl.blk BK104.out), (Cl.blk BK107.out), GW107.out, GE107.out, NB103_107.out, NB107_103.out, NB104_107.out, NB107_104.out, zb⟩)
  ·skip
   refine box_step ?hg (N := 8) ?hd (cs := #[.int .i64 0, .int .i64 0, .string (⟨#[]⟩ : ByteArray), .slice none 0 0]) (t := 26) ?hr ?_; (case hd => rfl); (case hg => rfl); (case hr => first | (go_simp; done) | (go_simp; rfl)); intro gb107 hg w8 hbox hb; have BK107 := Aside0.mk (hbox)
   have GW107 := (zq hg : Aside0 (w.heap.size ≤ gb107))
   have GE107 := (zq hg : Aside0 (w.heap.size ≤ gb107))
   replace HB := (zB hb)
   have NB103_107 := (zl hg BK103 : Aside0 (gb103 ≠ gb107))
   have NB107_103 := (zl' hg BK103 : Aside0 (gb107 ≠ gb103))
   replace BK103 := (zK BK103 hb)
   have NB104_107 := (zl hg BK104 : Aside0 (gb104 ≠ gb107))
   have NB107_104 := (zl' hg BK104 : Aside0 (gb107 ≠ gb104))
   replace BK104 := (zK BK104 hb)
   clear hb hbox hg; refine hK.out _ _ ⟨(blk_cell BK103.out 0).trans rfl, (blk_cell BK103.out 1).trans rfl, (blk_cell BK103.out 2).trans rfl, (blk_cell BK103.out 3).trans rfl⟩ (fun hHeld => ?_); clear hK K; refine norm_ (a' := ?_) ?_ ?_; rotate_left
   ·show Act.put _ (some 8) _ = _
    simp only [Act.put, List.setIfInBounds_toArray, List.set_cons_zero, List.set_cons_succ, i64_w, i32_w]; rfl
   refine one_ (i := 4) (N := some 17) #[true, true, true, true, true, false, true, false] rfl rfl (one_of HT_.out (by kernel_rfl)) (by decide) (fun K hK => ?_); refine goes_ Try.func88 (by kernel_rfl) rfl #[.agg #[.int .i64 a0_1, .string a0_2]] (by rfl) rfl rfl (by (try simp only [List.map_toArray, List.map_cons, List.map_nil]); first | done | rfl | (simp only [List.length_drop, List.length_take]; rfl)) ?_
   with_reducible refine (marginaliaref03_One.calls a0_1 a0_2 t105 t106 _ A4.out).mono ?_
   rintro e w9 ⟨rfl, hb⟩; refine ⟨_, rfl, ?_⟩
   replace BK103 := (zK BK103 hb)
   replace BK104 := (zK BK104 hb)
   replace BK107 := (zK BK107 hb)
   replace HB := (zB hb)
   (try clear hb)
   (try clear hb2)
   (try clear hk)
   (try clear hi)
   refine hK.out _ _ ⟨(blk_cell BK103.out 0).trans rfl, (blk_cell BK103.out 1).trans rfl, (blk_cell BK103.out 2).trans rfl, (blk_cell BK103.out 3).trans rfl⟩ (fun hHeld => ?_); clear hK K; refine norm_ (a' := ?_) ?_ ?_; rotate_left
   ·show Act.put _ (some 17) _ = _
    simp only [Act.put, List.setIfInBounds_toArray, List.set_cons_zero, List.set_cons_succ, i64_w, i32_w]; rfl
   refine zp 5 18 HT_ ?_; exact norm_ (by simp only [putAll, Act.put, List.setIfInBounds_toArray, List.set_cons_zero, List.set_cons_succ]) (hCont (gb107) _ ⟨hHeld, (Cl.blk BK103.out), (Cl.blk BK104.out), (Cl.blk BK107.out), GW107.out, GE107.out, NB103_107.out, NB107_103.out, NB104_107.out, NB107_104.out, zb⟩)
 rintro gb107 w10 ⟨hS_, h0_, h1_, h2_, h3_, h4_, h5_, h6_, h7_, h8_, h9_⟩
 replace BK103 := (⟨h0_⟩ : Aside0 (w10.heap[gb103]? = some (.cells #[.int .i64 a0_0, .int .i64 a0_1, .string a0_2, .slice A0_3 l0_3.length c0_3] 26 (0, 0))))
 replace BK104 := (⟨h1_⟩ : Aside0 (w10.heap[gb104]? = some (.cells #[.int .i64 0, .int .i64 0, .string (⟨#[]⟩ : ByteArray), .slice none 0 0] 26 (0, 0))))
 have BK107 := (⟨h2_⟩ : Aside0 (w10.heap[gb107]? = some (.cells #[.int .i64 0, .int .i64 0, .string (⟨#[]⟩ : ByteArray), .slice none 0 0] 26 (0, 0))))
 have GW107 := (⟨h3_⟩ : Aside0 (w.heap.size ≤ gb107))
 have GE107 := (⟨h4_⟩ : Aside0 (w.heap.size ≤ gb107))
 have NB103_107 := (⟨h5_⟩ : Aside0 (gb103 ≠ gb107))
 have NB107_103 := (⟨h6_⟩ : Aside0 (gb107 ≠ gb103))
 have NB104_107 := (⟨h7_⟩ : Aside0 (gb104 ≠ gb107))
 have NB107_104 := (⟨h8_⟩ : Aside0 (gb107 ≠ gb104))
 replace HB := (⟨h9_⟩ : Aside0 (Below w.heap.size w w10))
 clear h0_ h1_ h2_ h3_ h4_ h5_ h6_ h7_ h8_ h9_; have hHeld : w10.cell? ⟨gb103, 0, none⟩ = some (.int .i64 a0_0) ∧ w10.cell? ⟨gb103, 1, none⟩ = some (.int .i64 a0_1) ∧ w10.cell? ⟨gb103, 2, none⟩ = some (.string a0_2) ∧ w10.cell? ⟨gb103, 3, none⟩ = some (.slice A0_3 l0_3.length c0_3) := hS_; refine norm_ (a' := ?_) ?_ ?_; rotate_left
 ·simp only [putAll, Act.put, List.setIfInBounds_toArray, List.set_cons_zero, List.set_cons_succ]; rfl
 refine one_ (i := 7) (N := none) #[true, true, true, true, true, true, true, true] rfl rfl (one_of HT_.out (by kernel_rfl)) (by decide) (fun K hK => ?_); have hs11 : w10.cell? ⟨gb107, 0, none⟩ = some (.int .i64 0) := (blk_cell BK107.out 0).trans rfl; have hfs11 := blk_frozen BK107.out 0; have hns11_0 := NB103_107.out; have hns11_1 := NB104_107.out; have hms11_0 := NB107_103.out; have hms11_1 := NB107_104.out; have hs12 : w10.cell? ⟨gb107, 1, none⟩ = some (.int .i64 0) := (blk_cell BK107.out 1).trans rfl; have hfs12 := blk_frozen BK107.out 1; have hns12_0 := NB103_107.out; have hns12_1 := NB104_107.out; have hms12_0 := NB107_103.out; have hms12_1 := NB107_104.out; have hs13 : w10.cell? ⟨gb107, 2, none⟩ = some (.string (⟨#[]⟩ : ByteArray)) := (blk_cell BK107.out 2).trans rfl; have hfs13 := blk_frozen BK107.out 2; have hns13_0 := NB103_107.out; have hns13_1 := NB104_107.out; have hms13_0 := NB107_103.out; have hms13_1 := NB107_104.out; have hs14 : w10.cell? ⟨gb107, 3, none⟩ = some (.slice none 0 0) := (blk_cell BK107.out 3).trans rfl; have hfs14 := blk_frozen BK107.out 3; have hns14_0 := NB103_107.out; have hns14_1 := NB104_107.out; have hms14_0 := NB107_103.out; have hms14_1 := NB107_104.out; refine skip_ (w1 := ?_) (by rfl) rfl ?_ ?_; rotate_left
 ·go_simp; rfl
 refine hK.out _ _ ⟨((cell_far (p := ⟨gb107, _, none⟩) NB103_107.out _).trans (((cell_far (p := ⟨gb107, _, none⟩) NB103_107.out _).trans (((cell_far (p := ⟨gb107, _, none⟩) NB103_107.out _).trans (((cell_far (p := ⟨gb107, _, none⟩) NB103_107.out _).trans (hHeld.1)))))))), ((cell_far (p := ⟨gb107, _, none⟩) NB103_107.out _).trans (((cell_far (p := ⟨gb107, _, none⟩) NB103_107.out _).trans (((cell_far (p := ⟨gb107, _, none⟩) NB103_107.out _).trans (((cell_far (p := ⟨gb107, _, none⟩) NB103_107.out _).trans (hHeld.2.1)))))))), ((cell_far (p := ⟨gb107, _, none⟩) NB103_107.out _).trans (((cell_far (p := ⟨gb107, _, none⟩) NB103_107.out _).trans (((cell_far (p := ⟨gb107, _, none⟩) NB103_107.out _).trans (((cell_far (p := ⟨gb107, _, none⟩) NB103_107.out _).trans (hHeld.2.2.1)))))))), ((cell_far (p := ⟨gb107, _, none⟩) NB103_107.out _).trans (((cell_far (p := ⟨gb107, _, none⟩) NB103_107.out _).trans (((cell_far (p := ⟨gb107, _, none⟩) NB103_107.out _).trans (((cell_far (p := ⟨gb107, _, none⟩) NB103_107.out _).trans (hHeld.2.2.2))))))))⟩ (fun hHeld => ?_); clear hK K; refine done_ (done_of HT_.out (by kernel_rfl)) ?_
 try go_wp2
 go_loopg [9, 10] k (fun kq v9 v10 w' => ∃ (x9_1 : Int) (x10_1 : Int) (x108003_1 : List (S26)) (u108003 : Value), v9 = .int .i64 x9_1 ∧ v10 = .int .i64 x10_1 ∧ Aside0 (marginaliaref05_cut.l0 kq a2 x9_1 x10_1 a0_0 a0_1 a0_2 l0_3 a0_0 t105 t106 x108003_1 = some (r1, r2, r3, r4, r5)) ∧ Aside0 (kq ≤ k) ∧ Aside0 (Kd.R k26 26 w' w.heap.size (fun k_ => k_ ≠ gb103 ∧ k_ ≠ gb104 ∧ k_ ≠ gb107) u108003 x108003_1) ∧ Aside0 (w'.heap[gb103]? = some (.cells #[.int .i64 a0_0, .int .i64 a0_1, .string a0_2, (.slice A0_3 l0_3.length c0_3)] 26 (0, 0))) ∧ Aside0 (w'.heap[gb104]? = some (.cells #[.int .i64 0, .int .i64 0, .string (⟨#[]⟩ : ByteArray), (.slice none 0 0)] 26 (0, 0))) ∧ Aside0 (w'.heap[gb107]? = some (.cells #[.int .i64 a0_0, .int .i64 t105, .string t106, u108003] 26 (0, 0))) ∧ Aside0 (Below w.heap.size w w'))
 case atStart => exact ⟨(wrap64 (a1 - 1)), (0), (([] : List (S26))), (.slice none 0 0), zs, zs, H', ⟨Nat.le_refl _⟩, ⟨by first | exact Kd.R_nil _ _ _ _ _ | exact Kd.N_nil _ _ _ _ _ | exact Kd.V_nil _ _ _ _ _ | exact Kd.Q_nil _ _ _ _ _ | exact Kd.S_nil _ _ _ _ _⟩, ⟨zw⟩, ⟨zw⟩, ⟨zw⟩, ⟨zb⟩⟩
 case round =>
  clear H'; obtain ⟨x9_1, x10_1, x108003_1, u108003, rfl, rfl, HA, HK1, HO_108003, BK103, BK104, BK107, HB⟩ := hrel
  cases gk with
  | zero => exact absurd HA.out (by simp [marginaliaref05_cut.l0])
  | succ k1 =>
   have H := HA.out; clear HA; simp only [marginaliaref05_cut.l0] at H; by_cases c15 : x10_1 < (l0_3.length : Int)
   ·rw [if_pos c15] at H; have c15b0 := decide_eq_true c15; clear c15; by_cases c16 : x9_1 > 0
    ·rw [if_pos c16] at H; have c16b0 := decide_eq_true c16; clear c16; by_cases c17 : a2 ≤ 1002
     ·rw [if_pos c17] at H; have c17b0 := decide_eq_true c17; clear c17; replace H := zi1 H; obtain ⟨c18b0, H⟩ := H; replace H := Option.bind_eq_some_iff.mp H; obtain ⟨⟨t109, t110, t111, t112, t115⟩, A190, H⟩ := H; replace H : (if x108003_1.length < 2513169434916 then (marginaliaref05_cut.l0 k1 a2 t115 (wrap64 (x10_1 + 1)) a0_0 a0_1 a0_2 l0_3 a0_0 t105 t106 (x108003_1 ++ [(⟨t109, (⟨t110, t111⟩ : S23), t112⟩ : S26)])) else (none)) = some (r1, r2, r3, r4, r5) := H; have A19 := Aside0.mk A190; clear A190; replace H := zi H; obtain ⟨c20, H⟩ := H; have LMc20 := Aside0.mk c20; clear c20
      obtain ⟨y117, hy117⟩ : ∃ y_ : List (S26), y_ = (x108003_1 ++ [(⟨t109, (⟨t110, t111⟩ : S23), t112⟩ : S26)]) := ⟨_, rfl⟩
      replace H : (marginaliaref05_cut.l0 k1 a2 t115 (wrap64 (x10_1 + 1)) a0_0 a0_1 a0_2 l0_3 a0_0 t105 t106 y117) = some (r1, r2, r3, r4, r5) := by first | (rw [hy117]; with_reducible exact H) | (have H2_ := (Option.bind_some _ _).symm.trans H; rw [hy117]; with_reducible exact H2_) | (have H2_ := (Option.bind_some _ _).symm.trans H; with_reducible exact H2_) | with_reducible exact H | (rw [hy117]; exact H) | exact H
      have Ny117 := Aside0.mk hy117; clear hy117; have H' := Aside0.mk H; clear H; have hnb21 := NB103_104.out; have hnc21 := NB104_103.out; have hnb22 := NB103_107.out; have hnc22 := NB107_103.out; obtain ⟨hcz23_0, hcz23_1, hcz23_2, hcz23_3⟩ := zc4 BK103; obtain ⟨hfz23_0, hfz23_1, hfz23_2, hfz23_3⟩ := zz4 BK103; have p108 : 0 ≤ (x10_1 : Int) := zt; have q108 : x10_1 < (l0_3.length : Int) := zt; obtain ⟨ad108, A108_3, c108_3, e108, hx108_0, hx108_1, hx108_2, hx108_3, hl108_3, hi108_3⟩ := at_T26 HR0_3.out x10_1 p108 q108
      cases e108
      replace hx108_0 := zh HB hx108_0; replace hx108_1 := zh HB hx108_1; replace hx108_2 := zh HB hx108_2; replace hx108_3 := zh HB hx108_3; have HR108_3 := Aside0.mk hi108_3; have HC108_3 := Aside0.mk hl108_3; clear hi108_3 hl108_3; replace p108 := eq_true p108; replace q108 := eq_true q108
      go_wp2_with (first | ((with_reducible refine zG 70 rfl ?_); refine zg 45 Try.func70 ((ih k1 (by have := HK1.out; omega) ((rd_T26 l0_3 x10_1).f0) ((rd_T26 l0_3 x10_1).f1.f0) ((rd_T26 l0_3 x10_1).f1.f1) _ _ ((rd_T26 l0_3 x10_1).f2) x9_1 (wrap64 (a2 + 1)) t109 t110 t111 t112 t115 _ ?side1 ?side2 A19.out).mono ?_); (case side1 => exact zC HR108_3); (case side2 => exact HC108_3.out); rintro e w24 ⟨v113, rfl, ho0, hb⟩; refine ⟨_, rfl, ?_⟩; have HO114 := Aside0.mk (Kd.R_lower (Kd.R_newB (Kd.R_newB (Kd.R_newB (Kd.R_new' ho0 (Kd.R_lt (zR HO_108003))) (g := gb103) (o := .cells #[.int .i64 a0_0, .int .i64 a0_1, .string a0_2, .slice (some ad108) l0_3.length c0_3] 26 (0, 0)) (Cl.blk BK103.out)) (g := gb104) (o := .cells #[.int .i64 0, .int .i64 0, .string (⟨#[]⟩ : ByteArray), .slice none 0 0] 26 (0, 0)) (Cl.blk BK104.out)) (g := gb107) (o := .cells #[.int .i64 a0_0, .int .i64 t105, .string t106, u108003] 26 (0, 0)) (Cl.blk BK107.out)) (below_size zb)); replace HO_108003 := Aside0.mk (Kd.R_elder' (zR HO_108003) (Kd.R_base ho0) hb); replace BK103 := (zK BK103 hb); replace BK104 := (zK BK104 hb); replace BK107 := (zK BK107 hb); replace HB := (zB hb); (try clear hb); (try clear hb2); (try clear hk); (try clear hi); (try clear ho0)) | ((with_reducible refine zD 11 rfl ?_); refine zx 11 #[.int .i64 0, .int .i64 0, .string (⟨#[]⟩ : ByteArray), .slice none 0 0] 26 ?_; intro gb116 hg w25 hbox hb; replace HO_108003 := Aside0.mk (Kd.R_below (Kd.R_elderB (zR HO_108003) gb116 (Nat.le_of_eq hg.symm)) hb); replace HO114 := Aside0.mk (Kd.R_below (Kd.R_elderB (zR HO114) gb116 (Nat.le_of_eq hg.symm)) hb); have BK116 := Aside0.mk (hbox); have GW116 := (zq hg : Aside0 (w.heap.size ≤ gb116)); have GE116 := GW116; replace HB := (zB hb); have NB103_116 := (zl hg BK103 : Aside0 (gb103 ≠ gb116)); have NB116_103 := (zl' hg BK103 : Aside0 (gb116 ≠ gb103)); replace BK103 := (zK BK103 hb); have NB104_116 := (zl hg BK104 : Aside0 (gb104 ≠ gb116)); have NB116_104 := (zl' hg BK104 : Aside0 (gb116 ≠ gb104)); replace BK104 := (zK BK104 hb); have NB107_116 := (zl hg BK107 : Aside0 (gb107 ≠ gb116)); have NB116_107 := (zl' hg BK107 : Aside0 (gb116 ≠ gb107)); replace BK107 := (zK BK107 hb); clear hb hbox hg; have hnb26 := NB116_103.out; have hnc26 := NB103_116.out; have hnb27 := NB116_104.out; have hnc27 := NB104_116.out; have hnb28 := NB116_107.out; have hnc28 := NB107_116.out; obtain ⟨hcz29_0, hcz29_1, hcz29_2, hcz29_3⟩ := zc4 BK116; obtain ⟨hfz29_0, hfz29_1, hfz29_2, hfz29_3⟩ := zz4 BK116; obtain ⟨Ao30, co30, eo30⟩ := Kd.R_slice HO114.out; subst eo30) | ((with_reducible refine gate_store (t := 26) (p := 11) rfl ?_); refine store_event (t := 26) (p := 11) (v := ?vo_w31) (w1 := ((((w25.setCell ⟨gb116, 0, none⟩ (.int .i64 t109)).setCell ⟨gb116, 1, none⟩ (.int .i64 t110)).setCell ⟨gb116, 2, none⟩ (.string t111)).setCell ⟨gb116, 3, none⟩ (.slice Ao30 t112.length co30))) ?hg ?ho ?hn ?hr ?_; (case ho => rfl); (case hg => rfl); (case hn => rfl); (case hr => first | (go_simp; done) | (go_simp; rfl)); intro w31 hw; replace HO_108003 := (⟨(by rw [hw]; exact (by (with_reducible repeat (first | apply Kd.R_alloc | apply Kd.R_drewN | apply Kd.R_drew)); exact Kd.R_mono (zF4 gb116 (Kd.R_mono HO_108003.out (fun k_ hk => (⟨hk, hk.2⟩ : _ ∧ k_ ≠ gb116))) (fun _ hk => hk.2)) (fun _ hk => ⟨hk.1.1.2, ⟨hk.1.1.1.1, ⟨hk.1.1.1.2.1, ⟨hk.1.1.1.2.2, hk.1.2⟩⟩⟩⟩)))⟩ : Aside0 (Kd.R k26 26 w31 w.heap.size (fun k_ => some k_ ≠ (.slice Ao30 t112.length co30 : Value).ownBlock ∧ k_ ≠ gb103 ∧ k_ ≠ gb104 ∧ k_ ≠ gb107 ∧ k_ ≠ gb116) u108003 x108003_1)); replace HO114 := (⟨(by rw [hw]; exact (by (with_reducible repeat (first | apply Kd.R_alloc | apply Kd.R_drewN | apply Kd.R_drew)); exact Kd.R_mono (zF4 gb116 (Kd.R_mono HO114.out (fun k_ hk => (⟨hk, hk.2⟩ : _ ∧ k_ ≠ gb116))) (fun _ hk => hk.2)) (fun _ hk => ⟨hk.1.1.1.1.1.2, ⟨hk.1.1.1.1.2, ⟨hk.1.1.1.2, ⟨hk.1.1.2, hk.1.2⟩⟩⟩⟩)))⟩ : Aside0 (Kd.R k26 26 w31 w.heap.size (fun k_ => some k_ ≠ (u108003 : Value).ownBlock ∧ k_ ≠ gb103 ∧ k_ ≠ gb104 ∧ k_ ≠ gb107 ∧ k_ ≠ gb116) (.slice Ao30 t112.length co30) t112)); replace BK103 := (⟨(by rw [hw]; exact zw)⟩ : Aside0 (w31.heap[gb103]? = some (.cells #[.int .i64 a0_0, .int .i64 a0_1, .string a0_2, .slice (some ad108) l0_3.length c0_3] 26 (0, 0)))); replace BK104 := (⟨(by rw [hw]; exact zw)⟩ : Aside0 (w31.heap[gb104]? = some (.cells #[.int .i64 0, .int .i64 0, .string (⟨#[]⟩ : ByteArray), .slice none 0 0] 26 (0, 0)))); replace BK107 := (⟨(by rw [hw]; exact zw)⟩ : Aside0 (w31.heap[gb107]? = some (.cells #[.int .i64 a0_0, .int .i64 t105, .string t106, u108003] 26 (0, 0)))); replace BK116 := (⟨(by rw [hw]; exact zw)⟩ : Aside0 (w31.heap[gb116]? = some (.cells #[.int .i64 t109, .int .i64 t110, .string t111, .slice Ao30 t112.length co30] 26 (0, 0)))); replace HB := (⟨(by rw [hw]; exact zb)⟩ : Aside0 (Below w.heap.size w w31)); clear hw; have hnb32 := NB107_104.out; have hnc32 := NB104_107.out; obtain ⟨hcz33_0, hcz33_1, hcz33_2, hcz33_3⟩ := zc4 BK107; obtain ⟨hfz33_0, hfz33_1, hfz33_2, hfz33_3⟩ := zz4 BK107; obtain ⟨hcz34_0, hcz34_1, hcz34_2, hcz34_3⟩ := zc4 BK116; obtain ⟨hfz34_0, hfz34_1, hfz34_2, hfz34_3⟩ := zz4 BK116) | ((with_reducible refine gate_builtin (b := .append) (xs := #[.tmp 49, .tmp 51]) rfl ?_); at_builtin; refine Kd.R_append k26 (w0 := w) w.heap.size rfl (.tmp 49) (.tmp 51) 24 26 (.agg #[(.int .i64 0), (.int .i64 0), (.string ⟨#[]⟩), (.slice none 0 0)]) 56 rfl Try.underlying24 info26 rfl (by decide) (by omega) u108003 x108003_1 (⟨t109, (⟨t110, t111⟩ : S23), t112⟩ : S26) [.int .i64 t109, .int .i64 t110, .string t111, .slice Ao30 t112.length co30] (fun k_ => k_ ≠ gb103 ∧ k_ ≠ gb104 ∧ k_ ≠ gb107 ∧ k_ ≠ gb116) (fun k_ => ((fun k_ => k_ ≠ gb103 ∧ k_ ≠ gb104 ∧ k_ ≠ gb107 ∧ k_ ≠ gb116)) k_ ∧ some k_ ≠ (u108003 : Value).ownBlock) rfl rfl ?aP (fun _ hk => hk) ?aF ?aO ?aB ?aS ?aL ?_; (case aP => exact k26_mkM _ _ _ (⟨t109, (⟨t110, t111⟩ : S23), t112⟩ : S26) (Kd.R_mono (HO114.out) (fun k_ hk => ⟨⟨hk.2.1, ⟨hk.2.2.1, ⟨hk.2.2.2.1, hk.2.2.2.2⟩⟩⟩, hk.1⟩))); (case aB => exact zb); (case aF => exact (fun k_ hk => ⟨Kd.freshB (g := gb103) (o := .cells #[.int .i64 a0_0, .int .i64 a0_1, .string a0_2, .slice (some ad108) l0_3.length c0_3] 26 (0, 0)) (Cl.blk BK103.out) k_ hk, Kd.freshB (g := gb104) (o := .cells #[.int .i64 0, .int .i64 0, .string (⟨#[]⟩ : ByteArray), .slice none 0 0] 26 (0, 0)) (Cl.blk BK104.out) k_ hk, Kd.freshB (g := gb107) (o := .cells #[.int .i64 a0_0, .int .i64 t105, .string t106, u108003] 26 (0, 0)) (Cl.blk BK107.out) k_ hk, Kd.freshB (g := gb116) (o := .cells #[.int .i64 t109, .int .i64 t110, .string t111, .slice Ao30 t112.length co30] 26 (0, 0)) (Cl.blk BK116.out) k_ hk⟩)); (case aO => exact (zRm HO_108003 (fun _ hk => ⟨hk.2.1, ⟨hk.2.2.1, ⟨hk.2.2.2.1, hk.2.2.2.2⟩⟩⟩))); (case aS => exact (below_size zb)); (case aL => have := LMc20.out; omega); intro v118 w35 ho hb hg hat; rw [← Ny117.out] at ho; replace BK103 := (blk_grown' BK103 hg (Kd.R_away HO_108003.out (fun _ hk => hk.2.1))); replace BK104 := (blk_grown' BK104 hg (Kd.R_away HO_108003.out (fun _ hk => hk.2.2.1))); replace BK107 := (blk_grown' BK107 hg (Kd.R_away HO_108003.out (fun _ hk => hk.2.2.2.1))); replace BK116 := (blk_grown' BK116 hg (Kd.R_away HO_108003.out (fun _ hk => hk.2.2.2.2))); replace HB := Aside0.mk (hb); have HO119 := Aside0.mk (ho); clear HO_108003 HO114 ho hb hg hat; obtain ⟨Ao36, co36, eo36⟩ := Kd.R_slice HO119.out; subst eo36; obtain ⟨hcz37_0, hcz37_1, hcz37_2, hcz37_3⟩ := zc4 BK107; obtain ⟨hfz37_0, hfz37_1, hfz37_2, hfz37_3⟩ := zz4 BK107))
      go_roundg k1
      case measure => have := HK1.out; omega
      case rel => exact ⟨(t115), (wrap64 (x10_1 + 1)), (y117), (.slice Ao36 y117.length co36), zs, zs, H', zk, ⟨by (with_reducible repeat (first | apply Kd.R_alloc | apply Kd.R_drewN | apply Kd.R_drew)); exact Kd.R_mono (Kd.R_far (p := ⟨gb107, 3, none⟩) (Kd.R_mono HO119.out (fun k_ hk => (⟨hk, hk.2.2.1⟩ : _ ∧ k_ ≠ gb107))) (fun _ hk => hk.2) (.slice Ao36 y117.length co36)) (fun _ hk => ⟨hk.1.1, ⟨hk.1.2.1, hk.1.2.2.1⟩⟩)⟩, ⟨zw⟩, ⟨zw⟩, ⟨zw⟩, ⟨zb⟩⟩
     ·rw [if_neg c17] at H; have c17b0 := decide_eq_false c17; clear c17; simp only [Option.some.injEq, Prod.mk.injEq] at H; obtain ⟨rfl, rfl, rfl, rfl, rfl⟩ := H; have hnb38 := NB103_104.out; have hnc38 := NB104_103.out; have hnb39 := NB103_107.out; have hnc39 := NB107_103.out; obtain ⟨hcz40_0, hcz40_1, hcz40_2, hcz40_3⟩ := zc4 BK103; obtain ⟨hfz40_0, hfz40_1, hfz40_2, hfz40_3⟩ := zz4 BK103; have hnb41 := NB107_104.out; have hnc41 := NB104_107.out; obtain ⟨hcz42_0, hcz42_1, hcz42_2, hcz42_3⟩ := zc4 BK107; obtain ⟨hfz42_0, hfz42_1, hfz42_2, hfz42_3⟩ := zz4 BK107; obtain ⟨hcz43_0, hcz43_1, hcz43_2, hcz43_3⟩ := zc4 BK104; obtain ⟨hfz43_0, hfz43_1, hfz43_2, hfz43_3⟩ := zz4 BK104; obtain ⟨Ao44, co44, eo44⟩ := Kd.R_slice HO_108003.out; subst eo44; go_wp2; refine bodyPost_ret (results_ct rfl _ _ gb104 26 #[.int .i64 a0_0, .int .i64 t105, .string t106, .slice Ao44 x108003_1.length co44] (0, 0) _ rfl zw Try.underlying26 rfl (by kernel_rfl)) rfl ?_; exact ⟨_, zr, by (with_reducible repeat (first | apply Kd.R_alloc | apply Kd.R_drewN | apply Kd.R_drew)); exact Kd.R_mono (zF4 gb104 (Kd.R_mono HO_108003.out (fun k_ hk => (⟨hk, hk.2.1⟩ : _ ∧ k_ ≠ gb104))) (fun _ hk => hk.2)) (fun _ hk => trivial), zb⟩
    ·rw [if_neg c16] at H; have c16b0 := decide_eq_false c16; clear c16; simp only [Option.some.injEq, Prod.mk.injEq] at H; obtain ⟨rfl, rfl, rfl, rfl, rfl⟩ := H; have hnb45 := NB103_104.out; have hnc45 := NB104_103.out; have hnb46 := NB103_107.out; have hnc46 := NB107_103.out; obtain ⟨hcz47_0, hcz47_1, hcz47_2, hcz47_3⟩ := zc4 BK103; obtain ⟨hfz47_0, hfz47_1, hfz47_2, hfz47_3⟩ := zz4 BK103; have hnb48 := NB107_104.out; have hnc48 := NB104_107.out; obtain ⟨hcz49_0, hcz49_1, hcz49_2, hcz49_3⟩ := zc4 BK107; obtain ⟨hfz49_0, hfz49_1, hfz49_2, hfz49_3⟩ := zz4 BK107; obtain ⟨hcz50_0, hcz50_1, hcz50_2, hcz50_3⟩ := zc4 BK104; obtain ⟨hfz50_0, hfz50_1, hfz50_2, hfz50_3⟩ := zz4 BK104; obtain ⟨Ao51, co51, eo51⟩ := Kd.R_slice HO_108003.out; subst eo51; go_wp2; refine bodyPost_ret (results_ct rfl _ _ gb104 26 #[.int .i64 a0_0, .int .i64 t105, .string t106, .slice Ao51 x108003_1.length co51] (0, 0) _ rfl zw Try.underlying26 rfl (by kernel_rfl)) rfl ?_; exact ⟨_, zr, by (with_reducible repeat (first | apply Kd.R_alloc | apply Kd.R_drewN | apply Kd.R_drew)); exact Kd.R_mono (zF4 gb104 (Kd.R_mono HO_108003.out (fun k_ hk => (⟨hk, hk.2.1⟩ : _ ∧ k_ ≠ gb104))) (fun _ hk => hk.2)) (fun _ hk => trivial), zb⟩
   ·rw [if_neg c15] at H; have c15b0 := decide_eq_false c15; clear c15; simp only [Option.some.injEq, Prod.mk.injEq] at H; obtain ⟨rfl, rfl, rfl, rfl, rfl⟩ := H; have hnb52 := NB103_104.out; have hnc52 := NB104_103.out; have hnb53 := NB103_107.out; have hnc53 := NB107_103.out; obtain ⟨hcz54_0, hcz54_1, hcz54_2, hcz54_3⟩ := zc4 BK103; obtain ⟨hfz54_0, hfz54_1, hfz54_2, hfz54_3⟩ := zz4 BK103; have hnb55 := NB107_104.out; have hnc55 := NB104_107.out; obtain ⟨hcz56_0, hcz56_1, hcz56_2, hcz56_3⟩ := zc4 BK107; obtain ⟨hfz56_0, hfz56_1, hfz56_2, hfz56_3⟩ := zz4 BK107; obtain ⟨hcz57_0, hcz57_1, hcz57_2, hcz57_3⟩ := zc4 BK104; obtain ⟨hfz57_0, hfz57_1, hfz57_2, hfz57_3⟩ := zz4 BK104; obtain ⟨Ao58, co58, eo58⟩ := Kd.R_slice HO_108003.out; subst eo58; go_wp2; refine bodyPost_ret (results_ct rfl _ _ gb104 26 #[.int .i64 a0_0, .int .i64 t105, .string t106, .slice Ao58 x108003_1.length co58] (0, 0) _ rfl zw Try.underlying26 rfl (by kernel_rfl)) rfl ?_; exact ⟨_, zr, by (with_reducible repeat (first | apply Kd.R_alloc | apply Kd.R_drewN | apply Kd.R_drew)); exact Kd.R_mono (zF4 gb104 (Kd.R_mono HO_108003.out (fun k_ hk => (⟨hk, hk.2.1⟩ : _ ∧ k_ ≠ gb104))) (fun _ hk => hk.2)) (fun _ hk => trivial), zb⟩

/-! ### marginaliaref05_Cut: function 39 -/
def marginaliaref05_Cut.f (k : Nat) (a0_0 : Int) (a0_1 : Int) (a0_2 : ByteArray) (l0_3 : List (S26)) (a1 : Int) : Option (Int × Int × ByteArray × (List (S26))) := (marginaliaref05_cut.f k a0_0 a0_1 a0_2 l0_3 a1 0).bind fun bt122 => (some (bt122.1, bt122.2.1, bt122.2.2.1, bt122.2.2.2.1))
set_option maxHeartbeats 8000000 in
set_option maxRecDepth 100000 in
theorem marginaliaref05_Cut.calls (k : Nat) (a0_0 : Int) (a0_1 : Int) (a0_2 : ByteArray) (A0_3 : Option Addr) (c0_3 : Nat) (l0_3 : List (S26)) (a1 : Int) (r1 : Int) (r2 : Int) (r3 : ByteArray) (r4 : List (S26)) (w : World) (hr0_3 : Kd.C k26 w A0_3 l0_3.length l0_3) (hc0_3 : l0_3.length ≤ c0_3) (h : marginaliaref05_Cut.f k a0_0 a0_1 a0_2 l0_3 a1 = some (r1, r2, r3, r4)) :
  Calls Try.prog 39 #[.agg #[.int .i64 a0_0, .int .i64 a0_1, .string a0_2, .slice A0_3 l0_3.length c0_3], .int .i64 a1] w fun e w' => ∃ v3_ : Value, e = .returned (.agg #[.int .i64 r1, .int .i64 r2, .string r3, v3_]) ∧ Kd.R k26 26 w' w.heap.size (fun _ => True) v3_ r4 ∧ Below w.heap.size w w' := by
 have hu26 := Try.underlying26; have HR0_3 := Aside0.mk hr0_3; have HC0_3 := Aside0.mk hc0_3; clear hr0_3 hc0_3; have HB := Aside0.mk (Below.refl w.heap.size w); have H : ((marginaliaref05_cut.f k a0_0 a0_1 a0_2 l0_3 a1 0).bind fun bt122 => (some (bt122.1, bt122.2.1, bt122.2.2.1, bt122.2.2.2.1))) = some (r1, r2, r3, r4) := h; clear h; replace H := Option.bind_eq_some_iff.mp H; obtain ⟨⟨t122, t123, t124, t125, t128⟩, A30, H⟩ := H; replace H : (some (t122, t123, t124, t125)) = some (r1, r2, r3, r4) := H; have A3 := Aside0.mk A30; clear A30; simp only [Option.some.injEq, Prod.mk.injEq] at H; obtain ⟨rfl, rfl, rfl, rfl⟩ := H; go_enter Try.func39, Try.ntmps39
 go_wp2_with (first | ((with_reducible refine zD 2 rfl ?_); refine zx 2 #[.int .i64 a0_0, .int .i64 a0_1, .string a0_2, .slice A0_3 l0_3.length c0_3] 26 ?_; intro gb120 hg w4 hbox hb; have BK120 := Aside0.mk (hbox); have GW120 := (zq hg : Aside0 (w.heap.size ≤ gb120)); have GE120 := GW120; replace HB := (zB hb); clear hb hbox hg) | ((with_reducible refine zD 4 rfl ?_); refine zx 4 #[.int .i64 0, .int .i64 0, .string (⟨#[]⟩ : ByteArray), .slice none 0 0] 26 ?_; intro gb121 hg w5 hbox hb; have BK121 := Aside0.mk (hbox); have GW121 := (zq hg : Aside0 (w.heap.size ≤ gb121)); have GE121 := GW121; replace HB := (zB hb); have NB120_121 := (zl hg BK120 : Aside0 (gb120 ≠ gb121)); have NB121_120 := (zl' hg BK120 : Aside0 (gb121 ≠ gb120)); replace BK120 := (zK BK120 hb); clear hb hbox hg; have hnb6 := NB120_121.out; have hnc6 := NB121_120.out; obtain ⟨hcz7_0, hcz7_1, hcz7_2, hcz7_3⟩ := zc4 BK120; obtain ⟨hfz7_0, hfz7_1, hfz7_2, hfz7_3⟩ := zz4 BK120) | ((with_reducible refine zG 70 rfl ?_); refine zg 10 Try.func70 ((marginaliaref05_cut.calls k a0_0 a0_1 a0_2 _ _ l0_3 a1 0 t122 t123 t124 t125 t128 _ ?side1 ?side2 A3.out).mono ?_); (case side1 => exact zC HR0_3); (case side2 => exact HC0_3.out); rintro e w8 ⟨v126, rfl, ho0, hb⟩; refine ⟨_, rfl, ?_⟩; have HO127 := Aside0.mk (Kd.R_lower (Kd.R_newB (Kd.R_newB ho0 (g := gb120) (o := .cells #[.int .i64 a0_0, .int .i64 a0_1, .string a0_2, .slice A0_3 l0_3.length c0_3] 26 (0, 0)) (Cl.blk BK120.out)) (g := gb121) (o := .cells #[.int .i64 0, .int .i64 0, .string (⟨#[]⟩ : ByteArray), .slice none 0 0] 26 (0, 0)) (Cl.blk BK121.out)) (below_size zb)); replace BK120 := (zK BK120 hb); replace BK121 := (zK BK121 hb); replace HB := (zB hb); (try clear hb); (try clear hb2); (try clear hk); (try clear hi); (try clear ho0)) | ((with_reducible refine zD 5 rfl ?_); refine zx 5 #[.int .i64 0, .int .i64 0, .string (⟨#[]⟩ : ByteArray), .slice none 0 0] 26 ?_; intro gb129 hg w9 hbox hb; replace HO127 := Aside0.mk (Kd.R_below (Kd.R_elderB (zR HO127) gb129 (Nat.le_of_eq hg.symm)) hb); have BK129 := Aside0.mk (hbox); have GW129 := (zq hg : Aside0 (w.heap.size ≤ gb129)); have GE129 := GW129; replace HB := (zB hb); have NB120_129 := (zl hg BK120 : Aside0 (gb120 ≠ gb129)); have NB129_120 := (zl' hg BK120 : Aside0 (gb129 ≠ gb120)); replace BK120 := (zK BK120 hb); have NB121_129 := (zl hg BK121 : Aside0 (gb121 ≠ gb129)); have NB129_121 := (zl' hg BK121 : Aside0 (gb129 ≠ gb121)); replace BK121 := (zK BK121 hb); clear hb hbox hg; have hnb10 := NB129_120.out; have hnc10 := NB120_129.out; have hnb11 := NB129_121.out; have hnc11 := NB121_129.out; obtain ⟨hcz12_0, hcz12_1, hcz12_2, hcz12_3⟩ := zc4 BK129; obtain ⟨hfz12_0, hfz12_1, hfz12_2, hfz12_3⟩ := zz4 BK129; obtain ⟨Ao13, co13, eo13⟩ := Kd.R_slice HO127.out; subst eo13; obtain ⟨hcz14_0, hcz14_1, hcz14_2, hcz14_3⟩ := zc4 BK121; obtain ⟨hfz14_0, hfz14_1, hfz14_2, hfz14_3⟩ := zz4 BK121))
 refine bodyPost_ret (results_cell_row rfl _ _ gb121 26 #[.int .i64 t122, .int .i64 t123, .string t124, .slice Ao13 t125.length co13] (0, 0) _ rfl zw Try.underlying26 rfl (by kernel_rfl)) rfl ?_; exact ⟨_, zr, by (with_reducible repeat (first | apply Kd.R_alloc | apply Kd.R_drewN | apply Kd.R_drew)); exact Kd.R_mono (zF4 gb121 (zF4 gb129 (Kd.R_mono (Kd.R_mono HO127.out (fun k_ hk => (⟨hk, hk.2⟩ : _ ∧ k_ ≠ gb129))) (fun k_ hk => (⟨hk, hk.1.1.2⟩ : _ ∧ k_ ≠ gb121))) (fun _ hk => hk.1.2)) (fun _ hk => hk.2)) (fun _ hk => trivial), zb⟩

end Go.Proofs.Ytnafnieocpkkhaa.P

set_option linter.unusedVariables false
set_option linter.unusedSimpArgs false
namespace Go.Proofs.Ytnafnieocpkkhaa.P
open Go.RowKit Go.Proofs.YtnafnieocpkkhaaW.PrintWords Go.Proofs.YtnafnieocpkkhaaW.PrintLast Go.Proofs.YtnafnieocpkkhaaW.PrintMore
/-! ### rounds -/
theorem Ev.shift {α : Type} {g : Nat → Option α} {r : α} (h : Ev (fun k => g (k + 1)) r) : Ev g r := Ev.step (fun _ => rfl) h
theorem Ev.pos {α : Type} {c : Prop} [Decidable c] {f g : Nat → Option α} {r : α} (h : c) (k : Ev f r) : Ev (fun n => if c then f n else g n) r := by
 simp only [if_pos h]; exact k
theorem Ev.neg {α : Type} {c : Prop} [Decidable c] {f g : Nat → Option α} {r : α} (h : ¬ c) (k : Ev g r) : Ev (fun n => if c then f n else g n) r := by
 simp only [if_neg h]; exact k
theorem Ev.bind1 {α β : Type} {o : Option α} {f : Nat → α → Option β} {a : α} {r : β} (h : o = some a) (k : Ev (fun n => f n a) r) : Ev (fun n => o.bind (f n)) r := by
 rw [h]; exact k
theorem w64 {n : Int} (h : -9223372036854775808 ≤ n) (h' : n ≤ 9223372036854775807) : wrap64 n = n := by unfold wrap64; omega
theorem mn_nat (a b : Nat) : mn (a : Int) (b : Int) = ((min a b : Nat) : Int) := by unfold mn; (repeat' split) <;> omega
abbrev Nd := S26
theorem rd_nd {l : List Nd} {i : Nat} {e : Nd} {r : List Nd} (h : l.drop i = e :: r) : rd_T26 l (i : Int) = e := by
 have h1 : l[i]? = some e := by
  have := congrArg (fun x : List Nd => x[0]?) h
  simpa [List.getElem?_drop] using this
 simp [rd_T26, List.getD_eq_getElem?_getD, h1]
theorem lt_of_drop {α : Type} {l : List α} {i : Nat} {e : α} {r : List α} (h : l.drop i = e :: r) : i < l.length := by
 have := congrArg List.length h
 simp at this
 omega
theorem drop_next {α : Type} {l : List α} {i : Nat} {e : α} {r : List α} (h : l.drop i = e :: r) : l.drop (i + 1) = r := by
 have := congrArg (List.drop 1) h
 simpa [List.drop_drop, Nat.add_comm] using this
theorem le_of_nil {α : Type} {l : List α} {i : Nat} (h : l.drop i = []) : l.length ≤ i := by
 have := congrArg List.length h
 simp at this
 omega
/-! ### trees -/
theorem Nd.lt_of_mem {n x : Nd} (h : x ∈ n.f2) : SizeOf.sizeOf x < SizeOf.sizeOf n := by
 cases n with
 | mk a b c =>
  have := List.sizeOf_lt_of_mem h
  simp at this ⊢
  omega
theorem Nd.ind {P : Nd → Prop} (h : ∀ n, (∀ x ∈ n.f2, P x) → P n) : ∀ n, P n := by
 have : ∀ (s : Nat) (n : Nd), SizeOf.sizeOf n < s → P n := by
  intro s
  induction s with
  | zero => intro n hn; omega
  | succ s ih => intro n hn; exact h n (fun x hx => ih x (by have := Nd.lt_of_mem hx; omega))
 exact fun n => this (SizeOf.sizeOf n + 1) n (by omega)
/-- The bytes of a tree. -/
def wd (n : Nd) : Nat := n.f1.f1.size + (n.f2.attach.map fun x => wd x.1).sum
termination_by SizeOf.sizeOf n
decreasing_by exact Nd.lt_of_mem x.2
theorem wd_eq (n : Nd) : wd n = n.f1.f1.size + (n.f2.map wd).sum := by
 rw [wd]
 congr 2
 exact List.attach_map_val (f := wd)
/-- Leaves and nodes. -/
def nd (n : Nd) : Nat := 1 + (n.f2.attach.map fun x => nd x.1).sum
termination_by SizeOf.sizeOf n
decreasing_by exact Nd.lt_of_mem x.2
theorem nd_eq (n : Nd) : nd n = 1 + (n.f2.map nd).sum := by
 rw [nd]
 congr 2
 exact List.attach_map_val (f := nd)
theorem nd_pos (n : Nd) : 1 ≤ nd n := by rw [nd_eq]; omega
theorem sum_mem {l : List Nd} {f : Nd → Nat} {x : Nd} (h : x ∈ l) : f x ≤ (l.map f).sum := by
 induction l with
 | nil => cases h
 | cons y r ih =>
  simp only [List.map_cons, List.sum_cons]
  rcases List.mem_cons.1 h with rfl | h
  ·omega
  ·have := ih h; omega
theorem len_le (l : List Nd) : l.length ≤ (l.map nd).sum := by
 induction l with
 | nil => simp
 | cons y r ih =>
  simp only [List.map_cons, List.sum_cons, List.length_cons]; have := nd_pos y
  omega
end Go.Proofs.Ytnafnieocpkkhaa.P

namespace Go.Proofs.Ytnafnieocpkkhaa.P
open Go.RowKit Go.Proofs.YtnafnieocpkkhaaW.PrintWords Go.Proofs.YtnafnieocpkkhaaW.PrintLast Go.Proofs.YtnafnieocpkkhaaW.PrintMore
attribute [local go_sem] max2_int min2_int max_two min_two max_three min_three max_four min_four
set_option linter.unusedVariables false
set_option linter.unusedSimpArgs false

/-! ### marginaliaref03_Blank: function 93 -/
def marginaliaref03_Blank.f (a0 : Int) : Option (Bool) := if a0 = 32 then (some true) else (if a0 = 9 then (some true) else (if a0 = 10 then (some true) else (some (a0 == 13))))
set_option maxHeartbeats 8000000 in
set_option maxRecDepth 100000 in
theorem marginaliaref03_Blank.calls (a0 : Int) (r : Bool) (w : World) (h : marginaliaref03_Blank.f a0 = some r) :
  Calls Try.prog 93 #[.int .u8 a0] w fun e w' => e = .returned (.bool r) ∧ Drawn0 w w' := by
 have H : (if a0 = 32 then (some true) else (if a0 = 9 then (some true) else (if a0 = 10 then (some true) else (some (a0 == 13))))) = some r := h; clear h; by_cases c2 : a0 = 32
 ·rw [if_pos c2] at H; have c2b0 : (a0 == 32) = true := beq_iff_eq.mpr c2; have c2b1 : (a0 != 32) = false := bne_eq_false_iff_eq.mpr c2; clear c2; obtain rfl := Option.some.inj H; go_enter Try.func93, Try.ntmps93; go_wp2; go_ret; exact ⟨zs, zX⟩
 ·rw [if_neg c2] at H; have c2b0 : (a0 == 32) = false := beq_eq_false_iff_ne.mpr c2; have c2b1 : (a0 != 32) = true := bne_iff_ne.mpr c2; by_cases c3 : a0 = 9
  ·rw [if_pos c3] at H; have c3b0 : (a0 == 9) = true := beq_iff_eq.mpr c3; have c3b1 : (a0 != 9) = false := bne_eq_false_iff_eq.mpr c3; clear c3; obtain rfl := Option.some.inj H; go_enter Try.func93, Try.ntmps93; go_wp2; go_ret; exact ⟨zs, zX⟩
  ·rw [if_neg c3] at H; have c3b0 : (a0 == 9) = false := beq_eq_false_iff_ne.mpr c3; have c3b1 : (a0 != 9) = true := bne_iff_ne.mpr c3; by_cases c4 : a0 = 10
   ·rw [if_pos c4] at H; have c4b0 : (a0 == 10) = true := beq_iff_eq.mpr c4; have c4b1 : (a0 != 10) = false := bne_eq_false_iff_eq.mpr c4; clear c4; obtain rfl := Option.some.inj H; go_enter Try.func93, Try.ntmps93; go_wp2; go_ret; exact ⟨zs, zX⟩
   ·rw [if_neg c4] at H; have c4b0 : (a0 == 10) = false := beq_eq_false_iff_ne.mpr c4; have c4b1 : (a0 != 10) = true := bne_iff_ne.mpr c4; obtain rfl := Option.some.inj H; go_enter Try.func93, Try.ntmps93; go_wp2; go_ret; exact ⟨zs, zX⟩

/-! ### marginaliaref03_remark: function 94 -/
def marginaliaref03_remark.f (a0 : ByteArray) (a1 : Int) : Option (Bool) := if (wrap64 (a1 + 1)) < (a0.size : Int) then (if 0 ≤ a1 then (if a1 < (a0.size : Int) then (if (bt a0 a1) = 47 then (if 0 ≤ (wrap64 (a1 + 1)) then (some ((bt a0 (wrap64 (a1 + 1))) == 47)) else (none)) else (some false)) else (none)) else (none)) else (some false)
set_option maxHeartbeats 8000000 in
set_option maxRecDepth 100000 in
theorem marginaliaref03_remark.calls (a0 : ByteArray) (a1 : Int) (r : Bool) (w : World) (h : marginaliaref03_remark.f a0 a1 = some r) :
  Calls Try.prog 94 #[.string a0, .int .i64 a1] w fun e w' => e = .returned (.bool r) ∧ Drawn0 w w' := by
 have H : (if (wrap64 (a1 + 1)) < (a0.size : Int) then (if 0 ≤ a1 then (if a1 < (a0.size : Int) then (if (bt a0 a1) = 47 then (if 0 ≤ (wrap64 (a1 + 1)) then (some ((bt a0 (wrap64 (a1 + 1))) == 47)) else (none)) else (some false)) else (none)) else (none)) else (some false)) = some r := h; clear h; by_cases c3 : (wrap64 (a1 + 1)) < (a0.size : Int)
 ·rw [if_pos c3] at H; have c3b0 := decide_eq_true c3; clear c3; replace H := zi1 H; obtain ⟨c4b0, H⟩ := H; replace H := zi1 H; obtain ⟨c5b0, H⟩ := H; by_cases c7 : (bt a0 a1) = 47
  ·rw [if_pos c7] at H; have c7b0 : ((bt a0 a1) == 47) = true := beq_iff_eq.mpr c7; have c7b1 : ((bt a0 a1) != 47) = false := bne_eq_false_iff_eq.mpr c7; clear c7
   obtain ⟨ji8, hji8⟩ : ∃ j_ : Int, (wrap64 (a1 + 1)) = j_ := ⟨_, rfl⟩
   replace H : (if 0 ≤ (ji8) then (some ((bt a0 (ji8)) == 47)) else (none)) = some r := by first | (rw [hji8] at H; exact H) | (simp only [hji8] at H ⊢; exact H)
   (try rw [hji8] at c3b0)
   have hji8w : (IntKind.i64.wrap (a1 + 1)) = ji8 := (i64_w _).trans hji8; replace H := zi1 H; obtain ⟨c9b0, H⟩ := H; obtain rfl := Option.some.inj H; have p6 : (0 ≤ (a1 : Int)) = True := zT; have q6 : (a1 < (a0.size : Int)) = True := zT; have hx6 := bt_at a0 a1; have p10 : (0 ≤ ((ji8) : Int)) = True := zT; have q10 : ((ji8) < (a0.size : Int)) = True := zT; have hx10 := bt_at a0 (ji8); go_enter Try.func94, Try.ntmps94; go_wp2; go_ret; exact ⟨by first | rfl | (simp; done) | (simp only [← hji8] <;> (first | rfl | simp)) | (simp [*]; done), zX⟩
  ·rw [if_neg c7] at H; have c7b0 : ((bt a0 a1) == 47) = false := beq_eq_false_iff_ne.mpr c7; have c7b1 : ((bt a0 a1) != 47) = true := bne_iff_ne.mpr c7; obtain rfl := Option.some.inj H; have p6 : (0 ≤ (a1 : Int)) = True := zT; have q6 : (a1 < (a0.size : Int)) = True := zT; have hx6 := bt_at a0 a1; go_enter Try.func94, Try.ntmps94; go_wp2; go_ret; exact ⟨zs, zX⟩
 ·rw [if_neg c3] at H; have c3b0 := decide_eq_false c3; clear c3; obtain rfl := Option.some.inj H; go_enter Try.func94, Try.ntmps94; go_wp2; go_ret; exact ⟨zs, zX⟩

/-! ### marginaliaref03_line: function 95 -/
def marginaliaref03_line.l0 : Nat → ByteArray → Int → Option (Int)
 | 0, _, _ => none
 | k + 1, x0, x1 => if x1 < (x0.size : Int) then (if 0 ≤ x1 then (if (bt x0 x1) = 10 then (some x1) else (marginaliaref03_line.l0 k x0 (wrap64 (x1 + 1)))) else (none)) else (some x1)
def marginaliaref03_line.f (k : Nat) (a0 : ByteArray) (a1 : Int) : Option (Int) := marginaliaref03_line.l0 k a0 a1
set_option maxHeartbeats 8000000 in
set_option maxRecDepth 100000 in
theorem marginaliaref03_line.calls (k : Nat) (a0 : ByteArray) (a1 : Int) (r : Int) (w : World) (h : marginaliaref03_line.f k a0 a1 = some r) :
  Calls Try.prog 95 #[.string a0, .int .i64 a1] w fun e w' => e = .returned (.int .i64 r) ∧ Drawn0 w w' := by
 have H : (marginaliaref03_line.l0 k a0 a1) = some r := h; clear h; have H' := Aside0.mk H; clear H; go_enter Try.func95, Try.ntmps95; go_wp2
 go_loopg [1] k (fun kq v1 w' => ∃ (x1_1 : Int), v1 = .int .i64 x1_1 ∧ Aside0 (marginaliaref03_line.l0 kq a0 x1_1 = some r) ∧ Aside0 (kq ≤ k) ∧ Drawn0 w w')
 case atStart => exact ⟨(a1), zs, H', ⟨Nat.le_refl _⟩, zX⟩
 case round =>
  clear H'; obtain ⟨x1_1, rfl, HA, HK1, ⟨m1, rfl⟩⟩ := hrel
  cases gk with
  | zero => exact absurd HA.out (by simp [marginaliaref03_line.l0])
  | succ k1 =>
   have H := HA.out; clear HA; simp only [marginaliaref03_line.l0] at H; by_cases c3 : x1_1 < (a0.size : Int)
   ·rw [if_pos c3] at H; have c3b0 := decide_eq_true c3; clear c3; replace H := zi1 H; obtain ⟨c4b0, H⟩ := H; by_cases c6 : (bt a0 x1_1) = 10
    ·rw [if_pos c6] at H; have c6b0 : ((bt a0 x1_1) == 10) = true := beq_iff_eq.mpr c6; have c6b1 : ((bt a0 x1_1) != 10) = false := bne_eq_false_iff_eq.mpr c6; clear c6; obtain rfl := Option.some.inj H; have p5 : (0 ≤ (x1_1 : Int)) = True := zT; have q5 : (x1_1 < (a0.size : Int)) = True := zT; have hx5 := bt_at a0 x1_1; go_wp2; go_ret; exact ⟨zs, zX⟩
    ·rw [if_neg c6] at H; have c6b0 : ((bt a0 x1_1) == 10) = false := beq_eq_false_iff_ne.mpr c6; have c6b1 : ((bt a0 x1_1) != 10) = true := bne_iff_ne.mpr c6; have H' := Aside0.mk H; clear H; have p5 : (0 ≤ (x1_1 : Int)) = True := zT; have q5 : (x1_1 < (a0.size : Int)) = True := zT; have hx5 := bt_at a0 x1_1; go_wp2
     go_roundg k1
     case measure => have := HK1.out; omega
     case rel => exact ⟨(wrap64 (x1_1 + 1)), zs, H', zk, zX⟩
   ·rw [if_neg c3] at H; have c3b0 := decide_eq_false c3; clear c3; obtain rfl := Option.some.inj H; go_wp2; go_ret; exact ⟨zs, zX⟩

/-! ### marginaliaref03_Letter: function 96 -/
def marginaliaref03_Letter.f (a0 : Int) : Option (Bool) := if a0 ≥ 97 then (if a0 ≤ 122 then (some true) else (if a0 ≥ 65 then (if a0 ≤ 90 then (some true) else (some (a0 == 95))) else (some (a0 == 95)))) else (if a0 ≥ 65 then (if a0 ≤ 90 then (some true) else (some (a0 == 95))) else (some (a0 == 95)))
set_option maxHeartbeats 8000000 in
set_option maxRecDepth 100000 in
theorem marginaliaref03_Letter.calls (a0 : Int) (r : Bool) (w : World) (h : marginaliaref03_Letter.f a0 = some r) :
  Calls Try.prog 96 #[.int .u8 a0] w fun e w' => e = .returned (.bool r) ∧ Drawn0 w w' := by
 have H : (if a0 ≥ 97 then (if a0 ≤ 122 then (some true) else (if a0 ≥ 65 then (if a0 ≤ 90 then (some true) else (some (a0 == 95))) else (some (a0 == 95)))) else (if a0 ≥ 65 then (if a0 ≤ 90 then (some true) else (some (a0 == 95))) else (some (a0 == 95)))) = some r := h; clear h; by_cases c2 : a0 ≥ 97
 ·rw [if_pos c2] at H; have c2b0 := decide_eq_true c2; clear c2; by_cases c3 : a0 ≤ 122
  ·rw [if_pos c3] at H; have c3b0 := decide_eq_true c3; clear c3; obtain rfl := Option.some.inj H; go_enter Try.func96, Try.ntmps96; go_wp2; go_ret; exact ⟨zs, zX⟩
  ·rw [if_neg c3] at H; have c3b0 := decide_eq_false c3; clear c3; by_cases c4 : a0 ≥ 65
   ·rw [if_pos c4] at H; have c4b0 := decide_eq_true c4; clear c4; by_cases c5 : a0 ≤ 90
    ·rw [if_pos c5] at H; have c5b0 := decide_eq_true c5; clear c5; obtain rfl := Option.some.inj H; go_enter Try.func96, Try.ntmps96; go_wp2; go_ret; exact ⟨zs, zX⟩
    ·rw [if_neg c5] at H; have c5b0 := decide_eq_false c5; clear c5; obtain rfl := Option.some.inj H; go_enter Try.func96, Try.ntmps96; go_wp2; go_ret; exact ⟨zs, zX⟩
   ·rw [if_neg c4] at H; have c4b0 := decide_eq_false c4; clear c4; obtain rfl := Option.some.inj H; go_enter Try.func96, Try.ntmps96; go_wp2; go_ret; exact ⟨zs, zX⟩
 ·rw [if_neg c2] at H; have c2b0 := decide_eq_false c2; clear c2; by_cases c6 : a0 ≥ 65
  ·rw [if_pos c6] at H; have c6b0 := decide_eq_true c6; clear c6; by_cases c7 : a0 ≤ 90
   ·rw [if_pos c7] at H; have c7b0 := decide_eq_true c7; clear c7; obtain rfl := Option.some.inj H; go_enter Try.func96, Try.ntmps96; go_wp2; go_ret; exact ⟨zs, zX⟩
   ·rw [if_neg c7] at H; have c7b0 := decide_eq_false c7; clear c7; obtain rfl := Option.some.inj H; go_enter Try.func96, Try.ntmps96; go_wp2; go_ret; exact ⟨zs, zX⟩
  ·rw [if_neg c6] at H; have c6b0 := decide_eq_false c6; clear c6; obtain rfl := Option.some.inj H; go_enter Try.func96, Try.ntmps96; go_wp2; go_ret; exact ⟨zs, zX⟩

/-! ### marginaliaref03_Digit: function 97 -/
def marginaliaref03_Digit.f (a0 : Int) : Option (Bool) := if a0 ≥ 48 then (some (decide (a0 ≤ 57))) else (some false)
set_option maxHeartbeats 8000000 in
set_option maxRecDepth 100000 in
theorem marginaliaref03_Digit.calls (a0 : Int) (r : Bool) (w : World) (h : marginaliaref03_Digit.f a0 = some r) :
  Calls Try.prog 97 #[.int .u8 a0] w fun e w' => e = .returned (.bool r) ∧ Drawn0 w w' := by
 have H : (if a0 ≥ 48 then (some (decide (a0 ≤ 57))) else (some false)) = some r := h; clear h; by_cases c2 : a0 ≥ 48
 ·rw [if_pos c2] at H; have c2b0 := decide_eq_true c2; clear c2; obtain rfl := Option.some.inj H; go_enter Try.func97, Try.ntmps97; go_wp2; go_ret; exact ⟨zs, zX⟩
 ·rw [if_neg c2] at H; have c2b0 := decide_eq_false c2; clear c2; obtain rfl := Option.some.inj H; go_enter Try.func97, Try.ntmps97; go_wp2; go_ret; exact ⟨zs, zX⟩

/-! ### marginaliaref03_has: function 98 -/
def marginaliaref03_has.l0 : Nat → List ByteArray → ByteArray → Int → Option (Bool)
 | 0, _, _, _ => none
 | k + 1, x0, x1, x5 => if x5 < (x0.length : Int) then (if 0 ≤ x5 then (if (rdOf ByteArray.empty x0 x5).toList = x1.toList then (some true) else (marginaliaref03_has.l0 k x0 x1 (wrap64 (x5 + 1)))) else (none)) else (some false)
def marginaliaref03_has.f (k : Nat) (l0 : List ByteArray) (a1 : ByteArray) : Option (Bool) := marginaliaref03_has.l0 k l0 a1 0
set_option maxHeartbeats 8000000 in
set_option maxRecDepth 100000 in
theorem marginaliaref03_has.calls (k : Nat) (A0 : Option Addr) (c0 : Nat) (l0 : List ByteArray) (a1 : ByteArray) (r : Bool) (w : World) (hr0 : Kd.C Kd.string w A0 l0.length l0) (hc0 : l0.length ≤ c0) (h : marginaliaref03_has.f k l0 a1 = some r) :
  Calls Try.prog 98 #[.slice A0 l0.length c0, .string a1] w fun e w' => e = .returned (.bool r) ∧ Drawn0 w w' := by
 have HR0 := Aside0.mk hr0; have HC0 := Aside0.mk hc0; clear hr0 hc0; have H : (marginaliaref03_has.l0 k l0 a1 0) = some r := h; clear h; have H' := Aside0.mk H; clear H; go_enter Try.func98, Try.ntmps98; go_wp2
 go_loopg [5] k (fun kq v5 w' => ∃ (x5_1 : Int), v5 = .int .i64 x5_1 ∧ Aside0 (marginaliaref03_has.l0 kq l0 a1 x5_1 = some r) ∧ Aside0 (kq ≤ k) ∧ Drawn0 w w')
 case atStart => exact ⟨(0), zs, H', ⟨Nat.le_refl _⟩, zX⟩
 case round =>
  clear H'; obtain ⟨x5_1, rfl, HA, HK1, ⟨m1, rfl⟩⟩ := hrel
  cases gk with
  | zero => exact absurd HA.out (by simp [marginaliaref03_has.l0])
  | succ k1 =>
   have H := HA.out; clear HA; simp only [marginaliaref03_has.l0] at H; by_cases c3 : x5_1 < (l0.length : Int)
   ·rw [if_pos c3] at H; have c3b0 := decide_eq_true c3; clear c3; replace H := zi1 H; obtain ⟨c4b0, H⟩ := H; by_cases c5 : (rdOf ByteArray.empty l0 x5_1).toList = a1.toList
    ·rw [if_pos c5] at H; have c5b0 : ((rdOf ByteArray.empty l0 x5_1).toList == a1.toList) = true := beq_iff_eq.mpr c5; have c5b1 : ((rdOf ByteArray.empty l0 x5_1).toList != a1.toList) = false := bne_eq_false_iff_eq.mpr c5; clear c5; obtain rfl := Option.some.inj H; have p179 : 0 ≤ (x5_1 : Int) := zt; have q179 : x5_1 < (l0.length : Int) := zt; obtain ⟨ad179, e179, hx179_0⟩ := Kd.at_string HR0.out x5_1 p179 q179
     cases e179
     replace p179 := eq_true p179; replace q179 := eq_true q179; go_wp2; go_ret; exact ⟨zs, zX⟩
    ·rw [if_neg c5] at H; have c5b0 : ((rdOf ByteArray.empty l0 x5_1).toList == a1.toList) = false := beq_eq_false_iff_ne.mpr c5; have c5b1 : ((rdOf ByteArray.empty l0 x5_1).toList != a1.toList) = true := bne_iff_ne.mpr c5; have H' := Aside0.mk H; clear H; have p179 : 0 ≤ (x5_1 : Int) := zt; have q179 : x5_1 < (l0.length : Int) := zt; obtain ⟨ad179, e179, hx179_0⟩ := Kd.at_string HR0.out x5_1 p179 q179
     cases e179
     replace p179 := eq_true p179; replace q179 := eq_true q179; go_wp2
     go_roundg k1
     case measure => have := HK1.out; omega
     case rel => exact ⟨(wrap64 (x5_1 + 1)), zs, H', zk, zX⟩
   ·rw [if_neg c3] at H; have c3b0 := decide_eq_false c3; clear c3; obtain rfl := Option.some.inj H; go_wp2; go_ret; exact ⟨zs, zX⟩

/-! ### marginaliaref03_Words: function 99 -/
def marginaliaref03_Words.f  : Option (List ByteArray) := some (([(⟨#[100, 101, 102]⟩ : ByteArray), (⟨#[101, 108, 115, 101]⟩ : ByteArray), (⟨#[102, 97, 108, 115, 101]⟩ : ByteArray), (⟨#[102, 110]⟩ : ByteArray), (⟨#[105, 102]⟩ : ByteArray), (⟨#[105, 109, 112, 111, 114, 116]⟩ : ByteArray), (⟨#[105, 110]⟩ : ByteArray), (⟨#[108, 101, 116]⟩ : ByteArray), (⟨#[109, 97, 116, 99, 104]⟩ : ByteArray), (⟨#[116, 104, 101, 110]⟩ : ByteArray), (⟨#[116, 114, 117, 101]⟩ : ByteArray), (⟨#[116, 121, 112, 101]⟩ : ByteArray)] : List ByteArray))
set_option maxHeartbeats 8000000 in
set_option maxRecDepth 100000 in
theorem marginaliaref03_Words.calls  (r : List ByteArray) (w : World) (h : marginaliaref03_Words.f  = some r) :
  Calls Try.prog 99 #[] w fun e w' => ∃ v0_ : Value, e = .returned (v0_) ∧ Kd.R Kd.string 9 w' w.heap.size (fun _ => True) v0_ r ∧ Below w.heap.size w w' := by
 have HB := Aside0.mk (Below.refl w.heap.size w); have H : (some (([(⟨#[100, 101, 102]⟩ : ByteArray), (⟨#[101, 108, 115, 101]⟩ : ByteArray), (⟨#[102, 97, 108, 115, 101]⟩ : ByteArray), (⟨#[102, 110]⟩ : ByteArray), (⟨#[105, 102]⟩ : ByteArray), (⟨#[105, 109, 112, 111, 114, 116]⟩ : ByteArray), (⟨#[105, 110]⟩ : ByteArray), (⟨#[108, 101, 116]⟩ : ByteArray), (⟨#[109, 97, 116, 99, 104]⟩ : ByteArray), (⟨#[116, 104, 101, 110]⟩ : ByteArray), (⟨#[116, 114, 117, 101]⟩ : ByteArray), (⟨#[116, 121, 112, 101]⟩ : ByteArray)] : List ByteArray))) = some r := h; clear h
 obtain ⟨y180, hy180⟩ : ∃ y_ : List ByteArray, y_ = (([(⟨#[100, 101, 102]⟩ : ByteArray), (⟨#[101, 108, 115, 101]⟩ : ByteArray), (⟨#[102, 97, 108, 115, 101]⟩ : ByteArray), (⟨#[102, 110]⟩ : ByteArray), (⟨#[105, 102]⟩ : ByteArray), (⟨#[105, 109, 112, 111, 114, 116]⟩ : ByteArray), (⟨#[105, 110]⟩ : ByteArray), (⟨#[108, 101, 116]⟩ : ByteArray), (⟨#[109, 97, 116, 99, 104]⟩ : ByteArray), (⟨#[116, 104, 101, 110]⟩ : ByteArray), (⟨#[116, 114, 117, 101]⟩ : ByteArray), (⟨#[116, 121, 112, 101]⟩ : ByteArray)] : List ByteArray)) := ⟨_, rfl⟩
 replace H : (some y180) = some r := by first | (rw [hy180]; with_reducible exact H) | (have H2_ := (Option.bind_some _ _).symm.trans H; rw [hy180]; with_reducible exact H2_) | (have H2_ := (Option.bind_some _ _).symm.trans H; with_reducible exact H2_) | with_reducible exact H | (rw [hy180]; exact H) | exact H
 have Ny180 := Aside0.mk hy180; clear hy180; obtain rfl := Option.some.inj H; go_enter Try.func99, Try.ntmps99
 go_wp2_with (first | ((with_reducible refine zD 1 rfl ?_); refine Kd.R_lit Kd.string _ 9 ?hg (N := 1) ?hd (xs := ([(⟨#[100, 101, 102]⟩ : ByteArray), (⟨#[101, 108, 115, 101]⟩ : ByteArray), (⟨#[102, 97, 108, 115, 101]⟩ : ByteArray), (⟨#[102, 110]⟩ : ByteArray), (⟨#[105, 102]⟩ : ByteArray), (⟨#[105, 109, 112, 111, 114, 116]⟩ : ByteArray), (⟨#[105, 110]⟩ : ByteArray), (⟨#[108, 101, 116]⟩ : ByteArray), (⟨#[109, 97, 116, 99, 104]⟩ : ByteArray), (⟨#[116, 104, 101, 110]⟩ : ByteArray), (⟨#[116, 114, 117, 101]⟩ : ByteArray), (⟨#[116, 121, 112, 101]⟩ : ByteArray)] : List ByteArray)) (inner := [.string (⟨#[100, 101, 102]⟩ : ByteArray), .string (⟨#[101, 108, 115, 101]⟩ : ByteArray), .string (⟨#[102, 97, 108, 115, 101]⟩ : ByteArray), .string (⟨#[102, 110]⟩ : ByteArray), .string (⟨#[105, 102]⟩ : ByteArray), .string (⟨#[105, 109, 112, 111, 114, 116]⟩ : ByteArray), .string (⟨#[105, 110]⟩ : ByteArray), .string (⟨#[108, 101, 116]⟩ : ByteArray), .string (⟨#[109, 97, 116, 99, 104]⟩ : ByteArray), .string (⟨#[116, 104, 101, 110]⟩ : ByteArray), .string (⟨#[116, 114, 117, 101]⟩ : ByteArray), .string (⟨#[116, 121, 112, 101]⟩ : ByteArray)]) (ok := fun _ => True) (okp := fun _ => True) ?hr ?hp (fun _ hk => hk) trivial (Below.refl _ _) (Nat.le_refl _) (by simp) ?_; (case hd => rfl); (case hg => rfl); (case hr => first | (go_simp; done) | (go_simp; rfl)); (case hp => exact (Reps.one (show Kd.M Kd.string _ _ _ (⟨#[100, 101, 102]⟩ : ByteArray) [.string (⟨#[100, 101, 102]⟩ : ByteArray)] from rfl) (Reps.one (show Kd.M Kd.string _ _ _ (⟨#[101, 108, 115, 101]⟩ : ByteArray) [.string (⟨#[101, 108, 115, 101]⟩ : ByteArray)] from rfl) (Reps.one (show Kd.M Kd.string _ _ _ (⟨#[102, 97, 108, 115, 101]⟩ : ByteArray) [.string (⟨#[102, 97, 108, 115, 101]⟩ : ByteArray)] from rfl) (Reps.one (show Kd.M Kd.string _ _ _ (⟨#[102, 110]⟩ : ByteArray) [.string (⟨#[102, 110]⟩ : ByteArray)] from rfl) (Reps.one (show Kd.M Kd.string _ _ _ (⟨#[105, 102]⟩ : ByteArray) [.string (⟨#[105, 102]⟩ : ByteArray)] from rfl) (Reps.one (show Kd.M Kd.string _ _ _ (⟨#[105, 109, 112, 111, 114, 116]⟩ : ByteArray) [.string (⟨#[105, 109, 112, 111, 114, 116]⟩ : ByteArray)] from rfl) (Reps.one (show Kd.M Kd.string _ _ _ (⟨#[105, 110]⟩ : ByteArray) [.string (⟨#[105, 110]⟩ : ByteArray)] from rfl) (Reps.one (show Kd.M Kd.string _ _ _ (⟨#[108, 101, 116]⟩ : ByteArray) [.string (⟨#[108, 101, 116]⟩ : ByteArray)] from rfl) (Reps.one (show Kd.M Kd.string _ _ _ (⟨#[109, 97, 116, 99, 104]⟩ : ByteArray) [.string (⟨#[109, 97, 116, 99, 104]⟩ : ByteArray)] from rfl) (Reps.one (show Kd.M Kd.string _ _ _ (⟨#[116, 104, 101, 110]⟩ : ByteArray) [.string (⟨#[116, 104, 101, 110]⟩ : ByteArray)] from rfl) (Reps.one (show Kd.M Kd.string _ _ _ (⟨#[116, 114, 117, 101]⟩ : ByteArray) [.string (⟨#[116, 114, 117, 101]⟩ : ByteArray)] from rfl) (Reps.one (show Kd.M Kd.string _ _ _ (⟨#[116, 121, 112, 101]⟩ : ByteArray) [.string (⟨#[116, 121, 112, 101]⟩ : ByteArray)] from rfl) (Reps.none _ _)))))))))))))); intro v181 w1 ho2 hb hg_ hnew_; clear hg_ hnew_; (first | rw [← Ny180.out] at ho2 | (simp only [Int.reduceToNat] at ho2; rw [← Ny180.out] at ho2)); have HO182 := Aside0.mk (Kd.R_lower ho2 (below_size zb)); replace HB := (zB hb); clear hb ho2))
 go_ret; exact ⟨_, zr, by (with_reducible repeat (first | apply Kd.R_alloc | apply Kd.R_drewN | apply Kd.R_drew)); exact HO182.out, zb⟩

/-! ### marginaliaref03_quoted: function 100 -/
def marginaliaref03_quoted.l0 : Nat → ByteArray → Int → Option (Int)
 | 0, _, _ => none
 | k + 1, x0, x5 => if x5 < (x0.size : Int) then (if 0 ≤ x5 then (if (bt x0 x5) = 34 then (some (wrap64 (x5 + 1))) else (if (bt x0 x5) = 10 then (some 0) else (if (bt x0 x5) = 92 then (if (wrap64 (x5 + 1)) = (x0.size : Int) then (some 0) else (if 0 ≤ (wrap64 (x5 + 1)) then (if (wrap64 (x5 + 1)) < (x0.size : Int) then (if (bt x0 (wrap64 (x5 + 1))) = 110 then (marginaliaref03_quoted.l0 k x0 (wrap64 ((wrap64 (x5 + 1)) + 1))) else (if (bt x0 (wrap64 (x5 + 1))) = 34 then (marginaliaref03_quoted.l0 k x0 (wrap64 ((wrap64 (x5 + 1)) + 1))) else (if (bt x0 (wrap64 (x5 + 1))) = 92 then (marginaliaref03_quoted.l0 k x0 (wrap64 ((wrap64 (x5 + 1)) + 1))) else (some 0)))) else (none)) else (none))) else (marginaliaref03_quoted.l0 k x0 (wrap64 (x5 + 1)))))) else (none)) else (some 0)
def marginaliaref03_quoted.f (k : Nat) (a0 : ByteArray) (a1 : Int) : Option (Int) := marginaliaref03_quoted.l0 k a0 (wrap64 (a1 + 1))
set_option maxHeartbeats 8000000 in
set_option maxRecDepth 100000 in
theorem marginaliaref03_quoted.calls (k : Nat) (a0 : ByteArray) (a1 : Int) (r : Int) (w : World) (h : marginaliaref03_quoted.f k a0 a1 = some r) :
  Calls Try.prog 100 #[.string a0, .int .i64 a1] w fun e w' => e = .returned (.int .i64 r) ∧ Drawn0 w w' := by
 have H : (marginaliaref03_quoted.l0 k a0 (wrap64 (a1 + 1))) = some r := h; clear h; have H' := Aside0.mk H; clear H; go_enter Try.func100, Try.ntmps100; go_wp2
 go_loopg [5] k (fun kq v5 w' => ∃ (x5_1 : Int), v5 = .int .i64 x5_1 ∧ Aside0 (marginaliaref03_quoted.l0 kq a0 x5_1 = some r) ∧ Aside0 (kq ≤ k) ∧ Drawn0 w w')
 case atStart => exact ⟨(wrap64 (a1 + 1)), zs, H', ⟨Nat.le_refl _⟩, zX⟩
 case round =>
  clear H'; obtain ⟨x5_1, rfl, HA, HK1, ⟨m1, rfl⟩⟩ := hrel
  cases gk with
  | zero => exact absurd HA.out (by simp [marginaliaref03_quoted.l0])
  | succ k1 =>
   have H := HA.out; clear HA; simp only [marginaliaref03_quoted.l0] at H; by_cases c3 : x5_1 < (a0.size : Int)
   ·rw [if_pos c3] at H; have c3b0 := decide_eq_true c3; clear c3; replace H := zi1 H; obtain ⟨c4b0, H⟩ := H; by_cases c6 : (bt a0 x5_1) = 34
    ·rw [if_pos c6] at H; have c6b0 : ((bt a0 x5_1) == 34) = true := beq_iff_eq.mpr c6; have c6b1 : ((bt a0 x5_1) != 34) = false := bne_eq_false_iff_eq.mpr c6; clear c6; obtain rfl := Option.some.inj H; have p5 : (0 ≤ (x5_1 : Int)) = True := zT; have q5 : (x5_1 < (a0.size : Int)) = True := zT; have hx5 := bt_at a0 x5_1; go_wp2; go_ret; exact ⟨zs, zX⟩
    ·rw [if_neg c6] at H; have c6b0 : ((bt a0 x5_1) == 34) = false := beq_eq_false_iff_ne.mpr c6; have c6b1 : ((bt a0 x5_1) != 34) = true := bne_iff_ne.mpr c6; by_cases c7 : (bt a0 x5_1) = 10
     ·rw [if_pos c7] at H; have c7b0 : ((bt a0 x5_1) == 10) = true := beq_iff_eq.mpr c7; have c7b1 : ((bt a0 x5_1) != 10) = false := bne_eq_false_iff_eq.mpr c7; clear c7; obtain rfl := Option.some.inj H; have p5 : (0 ≤ (x5_1 : Int)) = True := zT; have q5 : (x5_1 < (a0.size : Int)) = True := zT; have hx5 := bt_at a0 x5_1; go_wp2; go_ret; exact ⟨zs, zX⟩
     ·rw [if_neg c7] at H; have c7b0 : ((bt a0 x5_1) == 10) = false := beq_eq_false_iff_ne.mpr c7; have c7b1 : ((bt a0 x5_1) != 10) = true := bne_iff_ne.mpr c7; by_cases c8 : (bt a0 x5_1) = 92
      ·rw [if_pos c8] at H; have c8b0 : ((bt a0 x5_1) == 92) = true := beq_iff_eq.mpr c8; have c8b1 : ((bt a0 x5_1) != 92) = false := bne_eq_false_iff_eq.mpr c8; clear c8; by_cases c9 : (wrap64 (x5_1 + 1)) = (a0.size : Int)
       ·rw [if_pos c9] at H; have c9b0 : ((wrap64 (x5_1 + 1)) == (a0.size : Int)) = true := beq_iff_eq.mpr c9; have c9b1 : ((wrap64 (x5_1 + 1)) != (a0.size : Int)) = false := bne_eq_false_iff_eq.mpr c9; clear c9; obtain rfl := Option.some.inj H; have p5 : (0 ≤ (x5_1 : Int)) = True := zT; have q5 : (x5_1 < (a0.size : Int)) = True := zT; have hx5 := bt_at a0 x5_1; go_wp2; go_ret; exact ⟨zs, zX⟩
       ·rw [if_neg c9] at H; have c9b0 : ((wrap64 (x5_1 + 1)) == (a0.size : Int)) = false := beq_eq_false_iff_ne.mpr c9; have c9b1 : ((wrap64 (x5_1 + 1)) != (a0.size : Int)) = true := bne_iff_ne.mpr c9
        obtain ⟨ji10, hji10⟩ : ∃ j_ : Int, (wrap64 (x5_1 + 1)) = j_ := ⟨_, rfl⟩
        replace H : (if 0 ≤ (ji10) then (if (ji10) < (a0.size : Int) then (if (bt a0 (ji10)) = 110 then (marginaliaref03_quoted.l0 k1 a0 (wrap64 ((ji10) + 1))) else (if (bt a0 (ji10)) = 34 then (marginaliaref03_quoted.l0 k1 a0 (wrap64 ((ji10) + 1))) else (if (bt a0 (ji10)) = 92 then (marginaliaref03_quoted.l0 k1 a0 (wrap64 ((ji10) + 1))) else (some 0)))) else (none)) else (none)) = some r := by first | (rw [hji10] at H; exact H) | (simp only [hji10] at H ⊢; exact H)
        (try rw [hji10] at c9b0)
        (try rw [hji10] at c9b1)
        have hji10w : (IntKind.i64.wrap (x5_1 + 1)) = ji10 := (i64_w _).trans hji10; replace H := zi1 H; obtain ⟨c11b0, H⟩ := H; replace H := zi1 H; obtain ⟨c12b0, H⟩ := H; by_cases c14 : (bt a0 (ji10)) = 110
        ·rw [if_pos c14] at H; have c14b0 : ((bt a0 (ji10)) == 110) = true := beq_iff_eq.mpr c14; have c14b1 : ((bt a0 (ji10)) != 110) = false := bne_eq_false_iff_eq.mpr c14; clear c14; have H' := Aside0.mk H; clear H; have p5 : (0 ≤ (x5_1 : Int)) = True := zT; have q5 : (x5_1 < (a0.size : Int)) = True := zT; have hx5 := bt_at a0 x5_1; have p13 : (0 ≤ ((ji10) : Int)) = True := zT; have q13 : ((ji10) < (a0.size : Int)) = True := zT; have hx13 := bt_at a0 (ji10); go_wp2
         go_roundg k1
         case measure => have := HK1.out; omega
         case rel => exact ⟨(wrap64 ((ji10) + 1)), (by first | rfl | (simp; done) | (simp only [← hji10] <;> (first | rfl | simp)) | (simp [*]; done)), H', zk, zX⟩
        ·rw [if_neg c14] at H; have c14b0 : ((bt a0 (ji10)) == 110) = false := beq_eq_false_iff_ne.mpr c14; have c14b1 : ((bt a0 (ji10)) != 110) = true := bne_iff_ne.mpr c14; by_cases c16 : (bt a0 (ji10)) = 34
         ·rw [if_pos c16] at H; have c16b0 : ((bt a0 (ji10)) == 34) = true := beq_iff_eq.mpr c16; have c16b1 : ((bt a0 (ji10)) != 34) = false := bne_eq_false_iff_eq.mpr c16; clear c16; have H' := Aside0.mk H; clear H; have p5 : (0 ≤ (x5_1 : Int)) = True := zT; have q5 : (x5_1 < (a0.size : Int)) = True := zT; have hx5 := bt_at a0 x5_1; have p13 : (0 ≤ ((ji10) : Int)) = True := zT; have q13 : ((ji10) < (a0.size : Int)) = True := zT; have hx13 := bt_at a0 (ji10); have p15 : (0 ≤ ((ji10) : Int)) = True := zT; have q15 : ((ji10) < (a0.size : Int)) = True := zT; have hx15 := bt_at a0 (ji10); go_wp2
          go_roundg k1
          case measure => have := HK1.out; omega
          case rel => exact ⟨(wrap64 ((ji10) + 1)), (by first | rfl | (simp; done) | (simp only [← hji10] <;> (first | rfl | simp)) | (simp [*]; done)), H', zk, zX⟩
         ·rw [if_neg c16] at H; have c16b0 : ((bt a0 (ji10)) == 34) = false := beq_eq_false_iff_ne.mpr c16; have c16b1 : ((bt a0 (ji10)) != 34) = true := bne_iff_ne.mpr c16; by_cases c18 : (bt a0 (ji10)) = 92
          ·rw [if_pos c18] at H; have c18b0 : ((bt a0 (ji10)) == 92) = true := beq_iff_eq.mpr c18; have c18b1 : ((bt a0 (ji10)) != 92) = false := bne_eq_false_iff_eq.mpr c18; clear c18; have H' := Aside0.mk H; clear H; have p5 : (0 ≤ (x5_1 : Int)) = True := zT; have q5 : (x5_1 < (a0.size : Int)) = True := zT; have hx5 := bt_at a0 x5_1; have p13 : (0 ≤ ((ji10) : Int)) = True := zT; have q13 : ((ji10) < (a0.size : Int)) = True := zT; have hx13 := bt_at a0 (ji10); have p15 : (0 ≤ ((ji10) : Int)) = True := zT; have q15 : ((ji10) < (a0.size : Int)) = True := zT; have hx15 := bt_at a0 (ji10); have p17 : (0 ≤ ((ji10) : Int)) = True := zT; have q17 : ((ji10) < (a0.size : Int)) = True := zT; have hx17 := bt_at a0 (ji10); go_wp2
           go_roundg k1
           case measure => have := HK1.out; omega
           case rel => exact ⟨(wrap64 ((ji10) + 1)), (by first | rfl | (simp; done) | (simp only [← hji10] <;> (first | rfl | simp)) | (simp [*]; done)), H', zk, zX⟩
          ·rw [if_neg c18] at H; have c18b0 : ((bt a0 (ji10)) == 92) = false := beq_eq_false_iff_ne.mpr c18; have c18b1 : ((bt a0 (ji10)) != 92) = true := bne_iff_ne.mpr c18; obtain rfl := Option.some.inj H; have p5 : (0 ≤ (x5_1 : Int)) = True := zT; have q5 : (x5_1 < (a0.size : Int)) = True := zT; have hx5 := bt_at a0 x5_1; have p13 : (0 ≤ ((ji10) : Int)) = True := zT; have q13 : ((ji10) < (a0.size : Int)) = True := zT; have hx13 := bt_at a0 (ji10); have p15 : (0 ≤ ((ji10) : Int)) = True := zT; have q15 : ((ji10) < (a0.size : Int)) = True := zT; have hx15 := bt_at a0 (ji10); have p17 : (0 ≤ ((ji10) : Int)) = True := zT; have q17 : ((ji10) < (a0.size : Int)) = True := zT; have hx17 := bt_at a0 (ji10); go_wp2; go_ret; exact ⟨by first | rfl | (simp; done) | (simp only [← hji10] <;> (first | rfl | simp)) | (simp [*]; done), zX⟩
      ·rw [if_neg c8] at H; have c8b0 : ((bt a0 x5_1) == 92) = false := beq_eq_false_iff_ne.mpr c8; have c8b1 : ((bt a0 x5_1) != 92) = true := bne_iff_ne.mpr c8; have H' := Aside0.mk H; clear H; have p5 : (0 ≤ (x5_1 : Int)) = True := zT; have q5 : (x5_1 < (a0.size : Int)) = True := zT; have hx5 := bt_at a0 x5_1; go_wp2
       go_roundg k1
       case measure => have := HK1.out; omega
       case rel => exact ⟨(wrap64 (x5_1 + 1)), zs, H', zk, zX⟩
   ·rw [if_neg c3] at H; have c3b0 := decide_eq_false c3; clear c3; obtain rfl := Option.some.inj H; go_wp2; go_ret; exact ⟨zs, zX⟩

/-! ### marginaliaref03_Signs: function 109 -/
def marginaliaref03_Signs.f  : Option (List ByteArray) := some (([(⟨#[33]⟩ : ByteArray), (⟨#[38, 38]⟩ : ByteArray), (⟨#[40]⟩ : ByteArray), (⟨#[41]⟩ : ByteArray), (⟨#[42]⟩ : ByteArray), (⟨#[43]⟩ : ByteArray), (⟨#[44]⟩ : ByteArray), (⟨#[45]⟩ : ByteArray), (⟨#[45, 62]⟩ : ByteArray), (⟨#[46]⟩ : ByteArray), (⟨#[58]⟩ : ByteArray), (⟨#[59]⟩ : ByteArray), (⟨#[60]⟩ : ByteArray), (⟨#[61]⟩ : ByteArray), (⟨#[61, 61]⟩ : ByteArray), (⟨#[61, 62]⟩ : ByteArray), (⟨#[91]⟩ : ByteArray), (⟨#[93]⟩ : ByteArray), (⟨#[123]⟩ : ByteArray), (⟨#[124]⟩ : ByteArray), (⟨#[124, 124]⟩ : ByteArray), (⟨#[125]⟩ : ByteArray)] : List ByteArray))
set_option maxHeartbeats 8000000 in
set_option maxRecDepth 100000 in
theorem marginaliaref03_Signs.calls  (r : List ByteArray) (w : World) (h : marginaliaref03_Signs.f  = some r) :
  Calls Try.prog 109 #[] w fun e w' => ∃ v0_ : Value, e = .returned (v0_) ∧ Kd.R Kd.string 9 w' w.heap.size (fun _ => True) v0_ r ∧ Below w.heap.size w w' := by
 have HB := Aside0.mk (Below.refl w.heap.size w); have H : (some (([(⟨#[33]⟩ : ByteArray), (⟨#[38, 38]⟩ : ByteArray), (⟨#[40]⟩ : ByteArray), (⟨#[41]⟩ : ByteArray), (⟨#[42]⟩ : ByteArray), (⟨#[43]⟩ : ByteArray), (⟨#[44]⟩ : ByteArray), (⟨#[45]⟩ : ByteArray), (⟨#[45, 62]⟩ : ByteArray), (⟨#[46]⟩ : ByteArray), (⟨#[58]⟩ : ByteArray), (⟨#[59]⟩ : ByteArray), (⟨#[60]⟩ : ByteArray), (⟨#[61]⟩ : ByteArray), (⟨#[61, 61]⟩ : ByteArray), (⟨#[61, 62]⟩ : ByteArray), (⟨#[91]⟩ : ByteArray), (⟨#[93]⟩ : ByteArray), (⟨#[123]⟩ : ByteArray), (⟨#[124]⟩ : ByteArray), (⟨#[124, 124]⟩ : ByteArray), (⟨#[125]⟩ : ByteArray)] : List ByteArray))) = some r := h; clear h
 obtain ⟨y183, hy183⟩ : ∃ y_ : List ByteArray, y_ = (([(⟨#[33]⟩ : ByteArray), (⟨#[38, 38]⟩ : ByteArray), (⟨#[40]⟩ : ByteArray), (⟨#[41]⟩ : ByteArray), (⟨#[42]⟩ : ByteArray), (⟨#[43]⟩ : ByteArray), (⟨#[44]⟩ : ByteArray), (⟨#[45]⟩ : ByteArray), (⟨#[45, 62]⟩ : ByteArray), (⟨#[46]⟩ : ByteArray), (⟨#[58]⟩ : ByteArray), (⟨#[59]⟩ : ByteArray), (⟨#[60]⟩ : ByteArray), (⟨#[61]⟩ : ByteArray), (⟨#[61, 61]⟩ : ByteArray), (⟨#[61, 62]⟩ : ByteArray), (⟨#[91]⟩ : ByteArray), (⟨#[93]⟩ : ByteArray), (⟨#[123]⟩ : ByteArray), (⟨#[124]⟩ : ByteArray), (⟨#[124, 124]⟩ : ByteArray), (⟨#[125]⟩ : ByteArray)] : List ByteArray)) := ⟨_, rfl⟩
 replace H : (some y183) = some r := by first | (rw [hy183]; with_reducible exact H) | (have H2_ := (Option.bind_some _ _).symm.trans H; rw [hy183]; with_reducible exact H2_) | (have H2_ := (Option.bind_some _ _).symm.trans H; with_reducible exact H2_) | with_reducible exact H | (rw [hy183]; exact H) | exact H
 have Ny183 := Aside0.mk hy183; clear hy183; obtain rfl := Option.some.inj H; go_enter Try.func109, Try.ntmps109
 go_wp2_with (first | ((with_reducible refine zD 1 rfl ?_); refine Kd.R_lit Kd.string _ 9 ?hg (N := 1) ?hd (xs := ([(⟨#[33]⟩ : ByteArray), (⟨#[38, 38]⟩ : ByteArray), (⟨#[40]⟩ : ByteArray), (⟨#[41]⟩ : ByteArray), (⟨#[42]⟩ : ByteArray), (⟨#[43]⟩ : ByteArray), (⟨#[44]⟩ : ByteArray), (⟨#[45]⟩ : ByteArray), (⟨#[45, 62]⟩ : ByteArray), (⟨#[46]⟩ : ByteArray), (⟨#[58]⟩ : ByteArray), (⟨#[59]⟩ : ByteArray), (⟨#[60]⟩ : ByteArray), (⟨#[61]⟩ : ByteArray), (⟨#[61, 61]⟩ : ByteArray), (⟨#[61, 62]⟩ : ByteArray), (⟨#[91]⟩ : ByteArray), (⟨#[93]⟩ : ByteArray), (⟨#[123]⟩ : ByteArray), (⟨#[124]⟩ : ByteArray), (⟨#[124, 124]⟩ : ByteArray), (⟨#[125]⟩ : ByteArray)] : List ByteArray)) (inner := [.string (⟨#[33]⟩ : ByteArray), .string (⟨#[38, 38]⟩ : ByteArray), .string (⟨#[40]⟩ : ByteArray), .string (⟨#[41]⟩ : ByteArray), .string (⟨#[42]⟩ : ByteArray), .string (⟨#[43]⟩ : ByteArray), .string (⟨#[44]⟩ : ByteArray), .string (⟨#[45]⟩ : ByteArray), .string (⟨#[45, 62]⟩ : ByteArray), .string (⟨#[46]⟩ : ByteArray), .string (⟨#[58]⟩ : ByteArray), .string (⟨#[59]⟩ : ByteArray), .string (⟨#[60]⟩ : ByteArray), .string (⟨#[61]⟩ : ByteArray), .string (⟨#[61, 61]⟩ : ByteArray), .string (⟨#[61, 62]⟩ : ByteArray), .string (⟨#[91]⟩ : ByteArray), .string (⟨#[93]⟩ : ByteArray), .string (⟨#[123]⟩ : ByteArray), .string (⟨#[124]⟩ : ByteArray), .string (⟨#[124, 124]⟩ : ByteArray), .string (⟨#[125]⟩ : ByteArray)]) (ok := fun _ => True) (okp := fun _ => True) ?hr ?hp (fun _ hk => hk) trivial (Below.refl _ _) (Nat.le_refl _) (by simp) ?_; (case hd => rfl); (case hg => rfl); (case hr => first | (go_simp; done) | (go_simp; rfl)); (case hp => exact (Reps.one (show Kd.M Kd.string _ _ _ (⟨#[33]⟩ : ByteArray) [.string (⟨#[33]⟩ : ByteArray)] from rfl) (Reps.one (show Kd.M Kd.string _ _ _ (⟨#[38, 38]⟩ : ByteArray) [.string (⟨#[38, 38]⟩ : ByteArray)] from rfl) (Reps.one (show Kd.M Kd.string _ _ _ (⟨#[40]⟩ : ByteArray) [.string (⟨#[40]⟩ : ByteArray)] from rfl) (Reps.one (show Kd.M Kd.string _ _ _ (⟨#[41]⟩ : ByteArray) [.string (⟨#[41]⟩ : ByteArray)] from rfl) (Reps.one (show Kd.M Kd.string _ _ _ (⟨#[42]⟩ : ByteArray) [.string (⟨#[42]⟩ : ByteArray)] from rfl) (Reps.one (show Kd.M Kd.string _ _ _ (⟨#[43]⟩ : ByteArray) [.string (⟨#[43]⟩ : ByteArray)] from rfl) (Reps.one (show Kd.M Kd.string _ _ _ (⟨#[44]⟩ : ByteArray) [.string (⟨#[44]⟩ : ByteArray)] from rfl) (Reps.one (show Kd.M Kd.string _ _ _ (⟨#[45]⟩ : ByteArray) [.string (⟨#[45]⟩ : ByteArray)] from rfl) (Reps.one (show Kd.M Kd.string _ _ _ (⟨#[45, 62]⟩ : ByteArray) [.string (⟨#[45, 62]⟩ : ByteArray)] from rfl) (Reps.one (show Kd.M Kd.string _ _ _ (⟨#[46]⟩ : ByteArray) [.string (⟨#[46]⟩ : ByteArray)] from rfl) (Reps.one (show Kd.M Kd.string _ _ _ (⟨#[58]⟩ : ByteArray) [.string (⟨#[58]⟩ : ByteArray)] from rfl) (Reps.one (show Kd.M Kd.string _ _ _ (⟨#[59]⟩ : ByteArray) [.string (⟨#[59]⟩ : ByteArray)] from rfl) (Reps.one (show Kd.M Kd.string _ _ _ (⟨#[60]⟩ : ByteArray) [.string (⟨#[60]⟩ : ByteArray)] from rfl) (Reps.one (show Kd.M Kd.string _ _ _ (⟨#[61]⟩ : ByteArray) [.string (⟨#[61]⟩ : ByteArray)] from rfl) (Reps.one (show Kd.M Kd.string _ _ _ (⟨#[61, 61]⟩ : ByteArray) [.string (⟨#[61, 61]⟩ : ByteArray)] from rfl) (Reps.one (show Kd.M Kd.string _ _ _ (⟨#[61, 62]⟩ : ByteArray) [.string (⟨#[61, 62]⟩ : ByteArray)] from rfl) (Reps.one (show Kd.M Kd.string _ _ _ (⟨#[91]⟩ : ByteArray) [.string (⟨#[91]⟩ : ByteArray)] from rfl) (Reps.one (show Kd.M Kd.string _ _ _ (⟨#[93]⟩ : ByteArray) [.string (⟨#[93]⟩ : ByteArray)] from rfl) (Reps.one (show Kd.M Kd.string _ _ _ (⟨#[123]⟩ : ByteArray) [.string (⟨#[123]⟩ : ByteArray)] from rfl) (Reps.one (show Kd.M Kd.string _ _ _ (⟨#[124]⟩ : ByteArray) [.string (⟨#[124]⟩ : ByteArray)] from rfl) (Reps.one (show Kd.M Kd.string _ _ _ (⟨#[124, 124]⟩ : ByteArray) [.string (⟨#[124, 124]⟩ : ByteArray)] from rfl) (Reps.one (show Kd.M Kd.string _ _ _ (⟨#[125]⟩ : ByteArray) [.string (⟨#[125]⟩ : ByteArray)] from rfl) (Reps.none _ _)))))))))))))))))))))))); intro v184 w1 ho2 hb hg_ hnew_; clear hg_ hnew_; (first | rw [← Ny183.out] at ho2 | (simp only [Int.reduceToNat] at ho2; rw [← Ny183.out] at ho2)); have HO185 := Aside0.mk (Kd.R_lower ho2 (below_size zb)); replace HB := (zB hb); clear hb ho2))
 go_ret; exact ⟨_, zr, by (with_reducible repeat (first | apply Kd.R_alloc | apply Kd.R_drewN | apply Kd.R_drew)); exact HO185.out, zb⟩

end Go.Proofs.Ytnafnieocpkkhaa.P

namespace Go.Proofs.Ytnafnieocpkkhaa.P
open Go.RowKit Go.Proofs.YtnafnieocpkkhaaW.PrintWords Go.Proofs.YtnafnieocpkkhaaW.PrintLast Go.Proofs.YtnafnieocpkkhaaW.PrintMore
attribute [local go_sem] max2_int min2_int max_two min_two max_three min_three max_four min_four
set_option linter.unusedVariables false
set_option linter.unusedSimpArgs false

/-! ### marginaliaref03_sign: function 101 -/
def marginaliaref03_sign.j0 : Nat → ByteArray → Int → Bool → Option (Int)
 | 0, _, _, _ => none
 | k + 1, x0, x1, x18 => if x18 = true then (some 2) else ((marginaliaref03_Signs.f).bind fun t190 => (if 0 ≤ x1 then (if x1 ≤ (wrap64 (x1 + 1)) then (if (wrap64 (x1 + 1)) ≤ (x0.size : Int) then ((marginaliaref03_has.f k t190 (x0.extract (x1 : Int).toNat ((wrap64 (x1 + 1)) : Int).toNat)).bind fun t193 => (if t193 = true then (some 1) else (some 0))) else (none)) else (none)) else (none)))
def marginaliaref03_sign.f (k : Nat) (a0 : ByteArray) (a1 : Int) : Option (Int) := if (wrap64 (a1 + 1)) < (a0.size : Int) then ((marginaliaref03_Signs.f).bind fun t186 => (if 0 ≤ a1 then (if a1 ≤ (wrap64 (a1 + 2)) then (if (wrap64 (a1 + 2)) ≤ (a0.size : Int) then ((marginaliaref03_has.f k t186 (a0.extract (a1 : Int).toNat ((wrap64 (a1 + 2)) : Int).toNat)).bind fun t189 => (marginaliaref03_sign.j0 k a0 a1 t189)) else (none)) else (none)) else (none))) else (marginaliaref03_sign.j0 k a0 a1 false)
def marginaliaref03_sign.T1 : Bool × List (List Nat × List Nat) := (true, [([], []), ([0], [0]), ([], []), ([2], [2]), ([1, 3], [1, 3]), ([4], [4]), ([5, 5], [5]), ([5], [5]), ([5], [5]), ([5], [5]), ([9, 5], [5, 9]), ([7, 8, 10, 5], [5, 7, 8, 10]), ([6, 11, 6, 5], [5, 6, 11]), ([5, 12], [5, 12])])
def marginaliaref03_sign.B1 : List Nat := [0, 1, 0, 4, 15, 31, 63, 63, 63, 63, 575, 1983, 4095, 8191]
theorem marginaliaref03_sign.tab1 : rtab .any (opsOf Try.f101 1) = marginaliaref03_sign.T1 := by kernel_rfl
theorem marginaliaref03_sign.bits1 : waitsOk marginaliaref03_sign.T1.2 marginaliaref03_sign.B1 = true := by kernel_rfl
set_option maxHeartbeats 8000000 in
set_option maxRecDepth 100000 in
theorem marginaliaref03_sign.calls (k : Nat) (a0 : ByteArray) (a1 : Int) (r : Int) (w : World) (h : marginaliaref03_sign.f k a0 a1 = some r) :
  Calls Try.prog 101 #[.string a0, .int .i64 a1] w fun e w' => e = .returned (.int .i64 r) ∧ Below w.heap.size w w' := by
 have HB := Aside0.mk (Below.refl w.heap.size w); have H : (if (wrap64 (a1 + 1)) < (a0.size : Int) then ((marginaliaref03_Signs.f).bind fun t186 => (if 0 ≤ a1 then (if a1 ≤ (wrap64 (a1 + 2)) then (if (wrap64 (a1 + 2)) ≤ (a0.size : Int) then ((marginaliaref03_has.f k t186 (a0.extract (a1 : Int).toNat ((wrap64 (a1 + 2)) : Int).toNat)).bind fun t189 => (marginaliaref03_sign.j0 k a0 a1 t189)) else (none)) else (none)) else (none))) else (marginaliaref03_sign.j0 k a0 a1 false)) = some r := h; clear h; have HC3 := Aside0.mk H; clear H; go_enter Try.func101, Try.ntmps101
 go_upto_region 1 with (fail)
 go_cut [18] (fun v18 wc => ∃ (kq : Nat) (x18_2 : Bool), v18 = .bool x18_2 ∧ Aside0 (marginaliaref03_sign.j0 kq a0 a1 x18_2 = some r) ∧ Aside0 (kq ≤ k) ∧ Aside0 (Below w.heap.size w wc))
 case first =>
  have H := HC3.out; clear HC3; by_cases c4 : (wrap64 (a1 + 1)) < (a0.size : Int)
  ·rw [if_pos c4] at H; have c4b0 := decide_eq_true c4; clear c4
   (first | rw [c4b0] | (simp only [i64_w, i32_w]; rw [c4b0]) | skip)
   replace H := zo H; obtain ⟨t186, A5, H⟩ := H; replace H := zi2 H; obtain ⟨c6b0, c6b1, H⟩ := H; replace H := zi H; obtain ⟨c7, H⟩ := H; have c7b0 := eq_true c7; have c7b1 : decide (a1 ≤ (wrap64 (a1 + 2))) = true := decide_eq_true c7; replace H := zi H; obtain ⟨c8, H⟩ := H; have c8b0 := eq_true c8; have c8b1 : decide ((wrap64 (a1 + 2)) ≤ (a0.size : Int)) = true := decide_eq_true c8; replace H := zo H; obtain ⟨t189, A9, H⟩ := H; have H' := Aside0.mk H; clear H
   try go_wp2
   replace HB := Aside0.mk (below_drew1 HB.out); refine start_ (n := 14) (S := fun w' => True) (ds := []) #[false, false, false, false, false, false, false, false, false, false, false, false, false, false] (by kernel_rfl) rfl rfl trivial (fun hHeld => ?_); refine with_tabW marginaliaref03_sign.tab1 marginaliaref03_sign.bits1 (fun HT_ HW_ => ?_); generalize w.drew = w10 at HB hHeld ⊢; refine zp 0 5 HT_ ?_; refine zp 1 6 HT_ ?_; refine zp 2 7 HT_ ?_; refine zp 3 8 HT_ ?_; refine zp 4 9 HT_ ?_; refine zp 5 10 HT_ ?_; refine zp 7 12 HT_ ?_; refine zp 8 13 HT_ ?_; refine zp 9 14 HT_ ?_; refine zp 10 15 HT_ ?_; refine zp 11 16 HT_ ?_; refine one_ (i := 6) (N := some 11) #[true, true, true, true, true, true, true, true, true, true, true, true, false, false] rfl rfl (one_of HT_.out (by kernel_rfl)) (by decide) (fun K hK => ?_); refine goes_ Try.func109 (by kernel_rfl) rfl #[] (by rfl) rfl rfl (by (try simp only [List.map_toArray, List.map_cons, List.map_nil]); first | done | rfl | (simp only [List.length_drop, List.length_take]; rfl)) ?_
   with_reducible refine (marginaliaref03_Signs.calls  t186 _ A5.out).mono ?_
   rintro e w11 ⟨v187, rfl, ho0, hb⟩; refine ⟨_, rfl, ?_⟩; have HO188 := Aside0.mk (Kd.R_lower ho0 (below_size zb))
   replace HB := (zB hb)
   (try clear hb)
   (try clear hb2)
   (try clear hk)
   (try clear hi)
   (try clear ho0)
   obtain ⟨Ao12, co12, eo12⟩ := Kd.R_slice HO188.out
   (first | subst eo12 | (injection eo12 with f1_ f2_ f3_; have f4_ := f1_.symm; have f5_ := f3_.symm; clear f1_ f2_ f3_; subst f4_; subst f5_))
   refine hK.out _ _ trivial (fun hHeld => ?_); clear hK K; refine norm_ (a' := ?_) ?_ ?_; rotate_left
   ·show Act.put _ (some 11) _ = _
    simp only [Act.put, List.setIfInBounds_toArray, List.set_cons_zero, List.set_cons_succ, i64_w, i32_w]; rfl
   refine one_ (i := 12) (N := some 17) #[true, true, true, true, true, true, true, true, true, true, true, true, true, false] rfl rfl (one_of HT_.out (by kernel_rfl)) (by decide) (fun K hK => ?_); refine goes_ Try.func98 (by kernel_rfl) rfl #[.slice Ao12 t186.length co12, .string (a0.extract (a1 : Int).toNat ((wrap64 (a1 + 2)) : Int).toNat)] (by rfl) rfl rfl (by (try simp only [List.map_toArray, List.map_cons, List.map_nil]); first | done | rfl | (simp only [List.length_drop, List.length_take]; rfl)) ?_
   with_reducible refine (marginaliaref03_has.calls k _ _ t186 (a0.extract (a1 : Int).toNat ((wrap64 (a1 + 2)) : Int).toNat) t189 _ ?side1 ?side2 A9.out).mono ?_
   (case side1 => exact zE' (Kd.R_reads' HO188.out).2.2)
   (case side2 => exact (Kd.R_reads' HO188.out).2.1)
   rintro e w' ⟨rfl, ⟨nd, rfl⟩⟩; refine ⟨_, rfl, ?_⟩; refine hK.out _ _ trivial (fun hHeld => ?_); clear hK K; refine norm_ (a' := ?_) ?_ ?_; rotate_left
   ·show Act.put _ (some 17) _ = _
    simp only [Act.put, List.setIfInBounds_toArray, List.set_cons_zero, List.set_cons_succ, i64_w, i32_w]; rfl
   refine zp 13 18 HT_ ?_; refine done_ (done_of HT_.out (by kernel_rfl)) ?_
   try go_wp2
   go_meet
   case rel => exact ⟨_, (t189), zs, H', ⟨by first | omega | exact Nat.le_refl _⟩, ⟨zb⟩⟩
  ·rw [if_neg c4] at H; have c4b0 := decide_eq_false c4; clear c4
   (first | rw [c4b0] | (simp only [i64_w, i32_w]; rw [c4b0]) | skip)
   have H' := Aside0.mk H; clear H
   try go_wp2
   replace HB := Aside0.mk (below_drew1 HB.out); refine start_ (n := 14) (S := fun w' => True) (ds := []) #[false, false, false, false, false, false, false, false, false, false, false, false, false, false] (by kernel_rfl) rfl rfl trivial (fun hHeld => ?_); refine with_tabW marginaliaref03_sign.tab1 marginaliaref03_sign.bits1 (fun HT_ HW_ => ?_); generalize w.drew = w13 at HB hHeld ⊢; refine zp 0 5 HT_ ?_; refine zp 1 6 HT_ ?_; refine zp 2 7 HT_ ?_; refine zp 3 8 HT_ ?_; refine zp 4 9 HT_ ?_; refine zp 5 10 HT_ ?_; refine zu 6 11 HT_ ?_; refine zu 7 12 HT_ ?_; refine zu 8 13 HT_ ?_; refine zu 9 14 HT_ ?_; refine zu 10 15 HT_ ?_; refine zu 11 16 HT_ ?_; refine zu 12 17 HT_ ?_; refine zp 13 18 HT_ ?_; refine done_ (done_of HT_.out (by kernel_rfl)) ?_
   try go_wp2
   go_meet
   case rel => exact ⟨_, (false), zs, H', ⟨by first | omega | exact Nat.le_refl _⟩, ⟨zb⟩⟩
 case rest =>
  clear HC3; obtain ⟨kq, x18_2, rfl, HA, HJ2, HB⟩ := hcut
  cases kq with
  | zero => exact absurd HA.out (by simp [marginaliaref03_sign.j0])
  | succ kj2 =>
   have H := HA.out; clear HA; simp only [marginaliaref03_sign.j0] at H; by_cases c14 : x18_2 = true
   ·subst c14; rw [if_pos rfl] at H; obtain rfl := Option.some.inj H; go_wp2; go_ret; exact ⟨zr, zb⟩
   ·replace c14 := Bool.eq_false_iff.mpr c14; subst c14; replace H := zf H; replace H := zo H; obtain ⟨t190, A15, H⟩ := H; replace H := zi2 H; obtain ⟨c16b0, c16b1, H⟩ := H; replace H := zi H; obtain ⟨c17, H⟩ := H; have c17b0 := eq_true c17; have c17b1 : decide (a1 ≤ (wrap64 (a1 + 1))) = true := decide_eq_true c17; replace H := zi H; obtain ⟨c18, H⟩ := H; have c18b0 := eq_true c18; have c18b1 : decide ((wrap64 (a1 + 1)) ≤ (a0.size : Int)) = true := decide_eq_true c18; replace H := zo H; obtain ⟨t193, A19, H⟩ := H; by_cases c20 : t193 = true
    ·subst c20; rw [if_pos rfl] at H; obtain rfl := Option.some.inj H
     try go_wp2
     replace HB := Aside0.mk (below_drew1 HB.out); refine start_ (n := 7) (S := fun w' => True) (ds := []) #[false, false, false, false, false, false, false] (by kernel_rfl) rfl rfl trivial (fun hHeld => ?_); generalize wc.drew = w21 at HB hHeld ⊢; refine pure_ (i := 1) (N := some 20) (v := ?_) (a' := ?_) #[false, true, false, false, false, false, false] rfl rfl (by kernel_rfl) (fun _ _ _ h => h) (Or.inl ⟨by rfl, ?_⟩) ?_ ?_; rotate_left
     ·intro w'; go_simp; with_reducible rfl
     rotate_left
     ·simp only [Act.put, List.setIfInBounds_toArray, List.set_cons_zero, List.set_cons_succ, i64_w, i32_w]; rfl
     refine pure_ (i := 2) (N := some 21) (v := ?_) (a' := ?_) #[false, true, true, false, false, false, false] rfl rfl (by kernel_rfl) (fun _ _ _ h => h) (Or.inl ⟨by rfl, ?_⟩) ?_ ?_; rotate_left
     ·intro w'; go_simp; with_reducible rfl
     rotate_left
     ·simp only [Act.put, List.setIfInBounds_toArray, List.set_cons_zero, List.set_cons_succ, i64_w, i32_w]; rfl
     refine pure_ (i := 3) (N := some 22) (v := ?_) (a' := ?_) #[false, true, true, true, false, false, false] rfl rfl (by kernel_rfl) (fun _ _ _ h => h) (Or.inl ⟨by rfl, ?_⟩) ?_ ?_; rotate_left
     ·intro w'; go_simp; with_reducible rfl
     rotate_left
     ·simp only [Act.put, List.setIfInBounds_toArray, List.set_cons_zero, List.set_cons_succ, i64_w, i32_w]; rfl
     refine pure_ (i := 4) (N := some 23) (v := ?_) (a' := ?_) #[false, true, true, true, true, false, false] rfl rfl (by kernel_rfl) (fun _ _ _ h => h) (Or.inl ⟨by rfl, ?_⟩) ?_ ?_; rotate_left
     ·intro w'; go_simp; with_reducible rfl
     rotate_left
     ·simp only [Act.put, List.setIfInBounds_toArray, List.set_cons_zero, List.set_cons_succ, i64_w, i32_w]; rfl
     refine pure_ (i := 5) (N := some 24) (v := ?_) (a' := ?_) #[false, true, true, true, true, true, false] rfl rfl (by kernel_rfl) (fun _ _ _ h => h) (Or.inl ⟨by rfl, ?_⟩) ?_ ?_; rotate_left
     ·intro w'; go_simp; with_reducible rfl
     rotate_left
     ·simp only [Act.put, List.setIfInBounds_toArray, List.set_cons_zero, List.set_cons_succ, i64_w, i32_w]; rfl
     refine one_ (i := 0) (N := some 19) #[true, true, true, true, true, true, false] rfl rfl (by kernel_rfl) (by decide) (fun K hK => ?_); refine goes_ Try.func109 (by kernel_rfl) rfl #[] (by rfl) rfl rfl (by (try simp only [List.map_toArray, List.map_cons, List.map_nil]); first | done | rfl | (simp only [List.length_drop, List.length_take]; rfl)) ?_
     with_reducible refine (marginaliaref03_Signs.calls  t190 _ A15.out).mono ?_
     rintro e w22 ⟨v191, rfl, ho0, hb⟩; refine ⟨_, rfl, ?_⟩; have HO192 := Aside0.mk (Kd.R_lower ho0 (below_size zb))
     replace HB := (zB hb)
     (try clear hb)
     (try clear hb2)
     (try clear hk)
     (try clear hi)
     (try clear ho0)
     obtain ⟨Ao23, co23, eo23⟩ := Kd.R_slice HO192.out
     (first | subst eo23 | (injection eo23 with f1_ f2_ f3_; have f4_ := f1_.symm; have f5_ := f3_.symm; clear f1_ f2_ f3_; subst f4_; subst f5_))
     refine hK.out _ _ trivial (fun hHeld => ?_); clear hK K; refine norm_ (a' := ?_) ?_ ?_; rotate_left
     ·show Act.put _ (some 19) _ = _
      simp only [Act.put, List.setIfInBounds_toArray, List.set_cons_zero, List.set_cons_succ, i64_w, i32_w]; rfl
     refine one_ (i := 6) (N := some 25) #[true, true, true, true, true, true, true] rfl rfl (by kernel_rfl) (by decide) (fun K hK => ?_); refine goes_ Try.func98 (by kernel_rfl) rfl #[.slice Ao23 t190.length co23, .string (a0.extract (a1 : Int).toNat ((wrap64 (a1 + 1)) : Int).toNat)] (by rfl) rfl rfl (by (try simp only [List.map_toArray, List.map_cons, List.map_nil]); first | done | rfl | (simp only [List.length_drop, List.length_take]; rfl)) ?_
     with_reducible refine (marginaliaref03_has.calls kj2 _ _ t190 (a0.extract (a1 : Int).toNat ((wrap64 (a1 + 1)) : Int).toNat) true _ ?side1 ?side2 A19.out).mono ?_
     (case side1 => exact zE' (Kd.R_reads' HO192.out).2.2)
     (case side2 => exact (Kd.R_reads' HO192.out).2.1)
     rintro e w' ⟨rfl, ⟨nd, rfl⟩⟩; refine ⟨_, rfl, ?_⟩; refine hK.out _ _ trivial (fun hHeld => ?_); clear hK K; refine norm_ (a' := ?_) ?_ ?_; rotate_left
     ·show Act.put _ (some 25) _ = _
      simp only [Act.put, List.setIfInBounds_toArray, List.set_cons_zero, List.set_cons_succ, i64_w, i32_w]; rfl
     refine done_ (by kernel_rfl) ?_
     try go_wp2
     go_ret; exact ⟨zr, zb⟩
    ·replace c20 := Bool.eq_false_iff.mpr c20; subst c20; replace H := zf H; obtain rfl := Option.some.inj H
     try go_wp2
     replace HB := Aside0.mk (below_drew1 HB.out); refine start_ (n := 7) (S := fun w' => True) (ds := []) #[false, false, false, false, false, false, false] (by kernel_rfl) rfl rfl trivial (fun hHeld => ?_); generalize wc.drew = w24 at HB hHeld ⊢; refine pure_ (i := 1) (N := some 20) (v := ?_) (a' := ?_) #[false, true, false, false, false, false, false] rfl rfl (by kernel_rfl) (fun _ _ _ h => h) (Or.inl ⟨by rfl, ?_⟩) ?_ ?_; rotate_left
     ·intro w'; go_simp; with_reducible rfl
     rotate_left
     ·simp only [Act.put, List.setIfInBounds_toArray, List.set_cons_zero, List.set_cons_succ, i64_w, i32_w]; rfl
     refine pure_ (i := 2) (N := some 21) (v := ?_) (a' := ?_) #[false, true, true, false, false, false, false] rfl rfl (by kernel_rfl) (fun _ _ _ h => h) (Or.inl ⟨by rfl, ?_⟩) ?_ ?_; rotate_left
     ·intro w'; go_simp; with_reducible rfl
     rotate_left
     ·simp only [Act.put, List.setIfInBounds_toArray, List.set_cons_zero, List.set_cons_succ, i64_w, i32_w]; rfl
     refine pure_ (i := 3) (N := some 22) (v := ?_) (a' := ?_) #[false, true, true, true, false, false, false] rfl rfl (by kernel_rfl) (fun _ _ _ h => h) (Or.inl ⟨by rfl, ?_⟩) ?_ ?_; rotate_left
     ·intro w'; go_simp; with_reducible rfl
     rotate_left
     ·simp only [Act.put, List.setIfInBounds_toArray, List.set_cons_zero, List.set_cons_succ, i64_w, i32_w]; rfl
     refine pure_ (i := 4) (N := some 23) (v := ?_) (a' := ?_) #[false, true, true, true, true, false, false] rfl rfl (by kernel_rfl) (fun _ _ _ h => h) (Or.inl ⟨by rfl, ?_⟩) ?_ ?_; rotate_left
     ·intro w'; go_simp; with_reducible rfl
     rotate_left
     ·simp only [Act.put, List.setIfInBounds_toArray, List.set_cons_zero, List.set_cons_succ, i64_w, i32_w]; rfl
     refine pure_ (i := 5) (N := some 24) (v := ?_) (a' := ?_) #[false, true, true, true, true, true, false] rfl rfl (by kernel_rfl) (fun _ _ _ h => h) (Or.inl ⟨by rfl, ?_⟩) ?_ ?_; rotate_left
     ·intro w'; go_simp; with_reducible rfl
     rotate_left
     ·simp only [Act.put, List.setIfInBounds_toArray, List.set_cons_zero, List.set_cons_succ, i64_w, i32_w]; rfl
     refine one_ (i := 0) (N := some 19) #[true, true, true, true, true, true, false] rfl rfl (by kernel_rfl) (by decide) (fun K hK => ?_); refine goes_ Try.func109 (by kernel_rfl) rfl #[] (by rfl) rfl rfl (by (try simp only [List.map_toArray, List.map_cons, List.map_nil]); first | done | rfl | (simp only [List.length_drop, List.length_take]; rfl)) ?_
     with_reducible refine (marginaliaref03_Signs.calls  t190 _ A15.out).mono ?_
     rintro e w25 ⟨v191, rfl, ho0, hb⟩; refine ⟨_, rfl, ?_⟩; have HO192 := Aside0.mk (Kd.R_lower ho0 (below_size zb))
     replace HB := (zB hb)
     (try clear hb)
     (try clear hb2)
     (try clear hk)
     (try clear hi)
     (try clear ho0)
     obtain ⟨Ao26, co26, eo26⟩ := Kd.R_slice HO192.out
     (first | subst eo26 | (injection eo26 with f1_ f2_ f3_; have f4_ := f1_.symm; have f5_ := f3_.symm; clear f1_ f2_ f3_; subst f4_; subst f5_))
     refine hK.out _ _ trivial (fun hHeld => ?_); clear hK K; refine norm_ (a' := ?_) ?_ ?_; rotate_left
     ·show Act.put _ (some 19) _ = _
      simp only [Act.put, List.setIfInBounds_toArray, List.set_cons_zero, List.set_cons_succ, i64_w, i32_w]; rfl
     refine one_ (i := 6) (N := some 25) #[true, true, true, true, true, true, true] rfl rfl (by kernel_rfl) (by decide) (fun K hK => ?_); refine goes_ Try.func98 (by kernel_rfl) rfl #[.slice Ao26 t190.length co26, .string (a0.extract (a1 : Int).toNat ((wrap64 (a1 + 1)) : Int).toNat)] (by rfl) rfl rfl (by (try simp only [List.map_toArray, List.map_cons, List.map_nil]); first | done | rfl | (simp only [List.length_drop, List.length_take]; rfl)) ?_
     with_reducible refine (marginaliaref03_has.calls kj2 _ _ t190 (a0.extract (a1 : Int).toNat ((wrap64 (a1 + 1)) : Int).toNat) false _ ?side1 ?side2 A19.out).mono ?_
     (case side1 => exact zE' (Kd.R_reads' HO192.out).2.2)
     (case side2 => exact (Kd.R_reads' HO192.out).2.1)
     rintro e w' ⟨rfl, ⟨nd, rfl⟩⟩; refine ⟨_, rfl, ?_⟩; refine hK.out _ _ trivial (fun hHeld => ?_); clear hK K; refine norm_ (a' := ?_) ?_ ?_; rotate_left
     ·show Act.put _ (some 25) _ = _
      simp only [Act.put, List.setIfInBounds_toArray, List.set_cons_zero, List.set_cons_succ, i64_w, i32_w]; rfl
     refine done_ (by kernel_rfl) ?_
     try go_wp2
     go_ret; exact ⟨zr, zb⟩

/-! ### marginaliaref03_begins: function 102 -/
def marginaliaref03_begins.f (k : Nat) (a0 : ByteArray) (a1 : Int) : Option (Bool) := if 0 ≤ a1 then (if a1 < (a0.size : Int) then ((marginaliaref03_Blank.f (bt a0 a1)).bind fun t194 => (if t194 = true then (some true) else ((marginaliaref03_Letter.f (bt a0 a1)).bind fun t195 => (if t195 = true then (some true) else ((marginaliaref03_Digit.f (bt a0 a1)).bind fun t196 => (if t196 = true then (some true) else (if (bt a0 a1) = 34 then (some true) else ((marginaliaref03_remark.f a0 a1).bind fun t197 => (if t197 = true then (some true) else ((marginaliaref03_sign.f k a0 a1).bind fun t198 => (some (decide (t198 > 0))))))))))))) else (none)) else (none)
set_option maxHeartbeats 8000000 in
set_option maxRecDepth 100000 in
theorem marginaliaref03_begins.calls (k : Nat) (a0 : ByteArray) (a1 : Int) (r : Bool) (w : World) (h : marginaliaref03_begins.f k a0 a1 = some r) :
  Calls Try.prog 102 #[.string a0, .int .i64 a1] w fun e w' => e = .returned (.bool r) ∧ Below w.heap.size w w' := by
 have HB := Aside0.mk (Below.refl w.heap.size w); have H : (if 0 ≤ a1 then (if a1 < (a0.size : Int) then ((marginaliaref03_Blank.f (bt a0 a1)).bind fun t194 => (if t194 = true then (some true) else ((marginaliaref03_Letter.f (bt a0 a1)).bind fun t195 => (if t195 = true then (some true) else ((marginaliaref03_Digit.f (bt a0 a1)).bind fun t196 => (if t196 = true then (some true) else (if (bt a0 a1) = 34 then (some true) else ((marginaliaref03_remark.f a0 a1).bind fun t197 => (if t197 = true then (some true) else ((marginaliaref03_sign.f k a0 a1).bind fun t198 => (some (decide (t198 > 0))))))))))))) else (none)) else (none)) = some r := h; clear h; replace H := zi1 H; obtain ⟨c3b0, H⟩ := H; replace H := zi1 H; obtain ⟨c4b0, H⟩ := H; replace H := zo H; obtain ⟨t194, A6, H⟩ := H; by_cases c7 : t194 = true
 ·subst c7; rw [if_pos rfl] at H; obtain rfl := Option.some.inj H; have p5 : (0 ≤ (a1 : Int)) = True := zT; have q5 : (a1 < (a0.size : Int)) = True := zT; have hx5 := bt_at a0 a1; go_enter Try.func102, Try.ntmps102
  go_wp2_with (first | ((with_reducible refine zG 93 rfl ?_); refine zg 10 Try.func93 ((marginaliaref03_Blank.calls (bt a0 a1) true _ A6.out).mono ?_); rintro e w' ⟨rfl, ⟨nd, rfl⟩⟩; refine ⟨_, rfl, ?_⟩))
  go_ret; exact ⟨zr, zb⟩
 ·replace c7 := Bool.eq_false_iff.mpr c7; subst c7; replace H := zf H; replace H := zo H; obtain ⟨t195, A8, H⟩ := H; by_cases c9 : t195 = true
  ·subst c9; rw [if_pos rfl] at H; obtain rfl := Option.some.inj H; have p5 : (0 ≤ (a1 : Int)) = True := zT; have q5 : (a1 < (a0.size : Int)) = True := zT; have hx5 := bt_at a0 a1; go_enter Try.func102, Try.ntmps102
   go_wp2_with (first | ((with_reducible refine zG 93 rfl ?_); refine zg 10 Try.func93 ((marginaliaref03_Blank.calls (bt a0 a1) false _ A6.out).mono ?_); rintro e w' ⟨rfl, ⟨nd, rfl⟩⟩; refine ⟨_, rfl, ?_⟩) | (go_at_call 96; (with_reducible refine (marginaliaref03_Letter.calls (bt a0 a1) true _ A8.out).mono ?_); rintro e w' ⟨rfl, ⟨nd, rfl⟩⟩))
   go_ret; exact ⟨zr, zb⟩
  ·replace c9 := Bool.eq_false_iff.mpr c9; subst c9; replace H := zf H; replace H := zo H; obtain ⟨t196, A10, H⟩ := H; by_cases c11 : t196 = true
   ·subst c11; rw [if_pos rfl] at H; obtain rfl := Option.some.inj H; have p5 : (0 ≤ (a1 : Int)) = True := zT; have q5 : (a1 < (a0.size : Int)) = True := zT; have hx5 := bt_at a0 a1; go_enter Try.func102, Try.ntmps102
    go_wp2_with (first | ((with_reducible refine zG 93 rfl ?_); refine zg 10 Try.func93 ((marginaliaref03_Blank.calls (bt a0 a1) false _ A6.out).mono ?_); rintro e w' ⟨rfl, ⟨nd, rfl⟩⟩; refine ⟨_, rfl, ?_⟩) | (go_at_call 96; (with_reducible refine (marginaliaref03_Letter.calls (bt a0 a1) false _ A8.out).mono ?_); rintro e w' ⟨rfl, ⟨nd, rfl⟩⟩) | (go_at_call 97; (with_reducible refine (marginaliaref03_Digit.calls (bt a0 a1) true _ A10.out).mono ?_); rintro e w' ⟨rfl, ⟨nd, rfl⟩⟩))
    go_ret; exact ⟨zr, zb⟩
   ·replace c11 := Bool.eq_false_iff.mpr c11; subst c11; replace H := zf H; by_cases c12 : (bt a0 a1) = 34
    ·rw [if_pos c12] at H; have c12b0 : ((bt a0 a1) == 34) = true := beq_iff_eq.mpr c12; have c12b1 : ((bt a0 a1) != 34) = false := bne_eq_false_iff_eq.mpr c12; clear c12; obtain rfl := Option.some.inj H; have p5 : (0 ≤ (a1 : Int)) = True := zT; have q5 : (a1 < (a0.size : Int)) = True := zT; have hx5 := bt_at a0 a1; go_enter Try.func102, Try.ntmps102
     go_wp2_with (first | ((with_reducible refine zG 93 rfl ?_); refine zg 10 Try.func93 ((marginaliaref03_Blank.calls (bt a0 a1) false _ A6.out).mono ?_); rintro e w' ⟨rfl, ⟨nd, rfl⟩⟩; refine ⟨_, rfl, ?_⟩) | (go_at_call 96; (with_reducible refine (marginaliaref03_Letter.calls (bt a0 a1) false _ A8.out).mono ?_); rintro e w' ⟨rfl, ⟨nd, rfl⟩⟩) | (go_at_call 97; (with_reducible refine (marginaliaref03_Digit.calls (bt a0 a1) false _ A10.out).mono ?_); rintro e w' ⟨rfl, ⟨nd, rfl⟩⟩))
     go_ret; exact ⟨zr, zb⟩
    ·rw [if_neg c12] at H; have c12b0 : ((bt a0 a1) == 34) = false := beq_eq_false_iff_ne.mpr c12; have c12b1 : ((bt a0 a1) != 34) = true := bne_iff_ne.mpr c12; replace H := zo H; obtain ⟨t197, A13, H⟩ := H; by_cases c14 : t197 = true
     ·subst c14; rw [if_pos rfl] at H; obtain rfl := Option.some.inj H; have p5 : (0 ≤ (a1 : Int)) = True := zT; have q5 : (a1 < (a0.size : Int)) = True := zT; have hx5 := bt_at a0 a1; go_enter Try.func102, Try.ntmps102
      go_wp2_with (first | ((with_reducible refine zG 93 rfl ?_); refine zg 10 Try.func93 ((marginaliaref03_Blank.calls (bt a0 a1) false _ A6.out).mono ?_); rintro e w' ⟨rfl, ⟨nd, rfl⟩⟩; refine ⟨_, rfl, ?_⟩) | (go_at_call 96; (with_reducible refine (marginaliaref03_Letter.calls (bt a0 a1) false _ A8.out).mono ?_); rintro e w' ⟨rfl, ⟨nd, rfl⟩⟩) | (go_at_call 97; (with_reducible refine (marginaliaref03_Digit.calls (bt a0 a1) false _ A10.out).mono ?_); rintro e w' ⟨rfl, ⟨nd, rfl⟩⟩) | (go_at_call 94; (with_reducible refine (marginaliaref03_remark.calls a0 a1 true _ A13.out).mono ?_); rintro e w' ⟨rfl, ⟨nd, rfl⟩⟩))
      go_ret; exact ⟨zr, zb⟩
     ·replace c14 := Bool.eq_false_iff.mpr c14; subst c14; replace H := zf H; replace H := zo H; obtain ⟨t198, A15, H⟩ := H; obtain rfl := Option.some.inj H; have p5 : (0 ≤ (a1 : Int)) = True := zT; have q5 : (a1 < (a0.size : Int)) = True := zT; have hx5 := bt_at a0 a1; go_enter Try.func102, Try.ntmps102
      go_wp2_with (first | ((with_reducible refine zG 93 rfl ?_); refine zg 10 Try.func93 ((marginaliaref03_Blank.calls (bt a0 a1) false _ A6.out).mono ?_); rintro e w' ⟨rfl, ⟨nd, rfl⟩⟩; refine ⟨_, rfl, ?_⟩) | (go_at_call 96; (with_reducible refine (marginaliaref03_Letter.calls (bt a0 a1) false _ A8.out).mono ?_); rintro e w' ⟨rfl, ⟨nd, rfl⟩⟩) | (go_at_call 97; (with_reducible refine (marginaliaref03_Digit.calls (bt a0 a1) false _ A10.out).mono ?_); rintro e w' ⟨rfl, ⟨nd, rfl⟩⟩) | (go_at_call 94; (with_reducible refine (marginaliaref03_remark.calls a0 a1 false _ A13.out).mono ?_); rintro e w' ⟨rfl, ⟨nd, rfl⟩⟩) | (go_at_call 101; (with_reducible refine (marginaliaref03_sign.calls k a0 a1 t198 _ A15.out).mono ?_); rintro e w16 ⟨rfl, hb⟩; replace HB := (zB hb); (try clear hb); (try clear hb2); (try clear hk); (try clear hi)))
      go_ret; exact ⟨zr, zb⟩

end Go.Proofs.Ytnafnieocpkkhaa.P

namespace Go.Proofs.Ytnafnieocpkkhaa.P
open Go.RowKit Go.Proofs.YtnafnieocpkkhaaW.PrintWords Go.Proofs.YtnafnieocpkkhaaW.PrintLast Go.Proofs.YtnafnieocpkkhaaW.PrintMore
attribute [local go_sem] max2_int min2_int max_two min_two max_three min_three max_four min_four
set_option linter.unusedVariables false
set_option linter.unusedSimpArgs false

/-! ### marginaliaref03_Next: function 75 -/
mutual
def marginaliaref03_Next.l0 : Nat → ByteArray → Int → Int → Option (Int × ByteArray)
 | 0, _, _, _ => none
 | k + 1, x0, x1, x6 => if x6 < (x0.size : Int) then (if 0 ≤ x6 then ((marginaliaref03_Blank.f (bt x0 x6)).bind fun t201 => (if t201 = true then (marginaliaref03_Next.l0 k x0 x1 (wrap64 (x6 + 1))) else (if 0 ≤ x1 then (if x1 ≤ x6 then (if x6 ≤ (x0.size : Int) then (some (1, x0.extract (x1 : Int).toNat (x6 : Int).toNat)) else (none)) else (none)) else (none)))) else (none)) else (if 0 ≤ x1 then (if x1 ≤ x6 then (if x6 ≤ (x0.size : Int) then (some (1, x0.extract (x1 : Int).toNat (x6 : Int).toNat)) else (none)) else (none)) else (none))
def marginaliaref03_Next.j2 : Nat → ByteArray → Int → Int → Option (Int × ByteArray)
 | 0, _, _, _ => none
 | k + 1, x0, x1, x6 => (marginaliaref03_Words.f).bind fun t207 => (if 0 ≤ x1 then (if x1 ≤ x6 then (if x6 ≤ (x0.size : Int) then ((marginaliaref03_has.f k t207 (x0.extract (x1 : Int).toNat (x6 : Int).toNat)).bind fun t210 => (if t210 = true then (some (4, x0.extract (x1 : Int).toNat (x6 : Int).toNat)) else (some (3, x0.extract (x1 : Int).toNat (x6 : Int).toNat)))) else (none)) else (none)) else (none))
def marginaliaref03_Next.l1 : Nat → ByteArray → Int → Int → Option (Int × ByteArray)
 | 0, _, _, _ => none
 | k + 1, x0, x1, x6 => if x6 < (x0.size : Int) then (if 0 ≤ x6 then ((marginaliaref03_Letter.f (bt x0 x6)).bind fun t205 => (if t205 = true then (marginaliaref03_Next.l1 k x0 x1 (wrap64 (x6 + 1))) else ((marginaliaref03_Digit.f (bt x0 x6)).bind fun t206 => (if t206 = true then (marginaliaref03_Next.l1 k x0 x1 (wrap64 (x6 + 1))) else (marginaliaref03_Next.j2 k x0 x1 x6))))) else (none)) else (marginaliaref03_Next.j2 k x0 x1 x6)
def marginaliaref03_Next.l2 : Nat → ByteArray → Int → Int → Option (Int × ByteArray)
 | 0, _, _, _ => none
 | k + 1, x0, x1, x6 => if x6 < (x0.size : Int) then (if 0 ≤ x6 then ((marginaliaref03_Digit.f (bt x0 x6)).bind fun t212 => (if t212 = true then (marginaliaref03_Next.l2 k x0 x1 (wrap64 (x6 + 1))) else (if 0 ≤ x1 then (if x1 ≤ x6 then (if x6 ≤ (x0.size : Int) then (some (5, x0.extract (x1 : Int).toNat (x6 : Int).toNat)) else (none)) else (none)) else (none)))) else (none)) else (if 0 ≤ x1 then (if x1 ≤ x6 then (if x6 ≤ (x0.size : Int) then (some (5, x0.extract (x1 : Int).toNat (x6 : Int).toNat)) else (none)) else (none)) else (none))
def marginaliaref03_Next.l3 : Nat → ByteArray → Int → Int → Option (Int × ByteArray)
 | 0, _, _, _ => none
 | k + 1, x0, x1, x6 => if x6 < (x0.size : Int) then ((marginaliaref03_begins.f k x0 x6).bind fun t216 => (if t216 = true then (if 0 ≤ x1 then (if x1 ≤ x6 then (if x6 ≤ (x0.size : Int) then (some (8, x0.extract (x1 : Int).toNat (x6 : Int).toNat)) else (none)) else (none)) else (none)) else (marginaliaref03_Next.l3 k x0 x1 (wrap64 (x6 + 1))))) else (if 0 ≤ x1 then (if x1 ≤ x6 then (if x6 ≤ (x0.size : Int) then (some (8, x0.extract (x1 : Int).toNat (x6 : Int).toNat)) else (none)) else (none)) else (none))
end
def marginaliaref03_Next.f (k : Nat) (a0 : ByteArray) (a1 : Int) : Option (Int × ByteArray) := if 0 ≤ a1 then (if a1 < (a0.size : Int) then ((marginaliaref03_Blank.f (bt a0 a1)).bind fun t200 => (if t200 = true then (marginaliaref03_Next.l0 k a0 a1 (wrap64 (a1 + 1))) else ((marginaliaref03_remark.f a0 a1).bind fun t202 => (if t202 = true then ((marginaliaref03_line.f k a0 a1).bind fun t203 => (if a1 ≤ t203 then (if t203 ≤ (a0.size : Int) then (some (2, a0.extract (a1 : Int).toNat (t203 : Int).toNat)) else (none)) else (none))) else ((marginaliaref03_Letter.f (bt a0 a1)).bind fun t204 => (if t204 = true then (marginaliaref03_Next.l1 k a0 a1 (wrap64 (a1 + 1))) else ((marginaliaref03_Digit.f (bt a0 a1)).bind fun t211 => (if t211 = true then (marginaliaref03_Next.l2 k a0 a1 (wrap64 (a1 + 1))) else (if (bt a0 a1) = 34 then ((marginaliaref03_quoted.f k a0 a1).bind fun t213 => (if t213 > 0 then (if a1 ≤ t213 then (if t213 ≤ (a0.size : Int) then (some (6, a0.extract (a1 : Int).toNat (t213 : Int).toNat)) else (none)) else (none)) else ((marginaliaref03_line.f k a0 a1).bind fun t214 => (if a1 ≤ t214 then (if t214 ≤ (a0.size : Int) then (some (8, a0.extract (a1 : Int).toNat (t214 : Int).toNat)) else (none)) else (none))))) else ((marginaliaref03_sign.f k a0 a1).bind fun t215 => (if t215 > 0 then (if a1 ≤ (wrap64 (a1 + t215)) then (if (wrap64 (a1 + t215)) ≤ (a0.size : Int) then (some (7, a0.extract (a1 : Int).toNat ((wrap64 (a1 + t215)) : Int).toNat)) else (none)) else (none)) else (marginaliaref03_Next.l3 k a0 a1 (wrap64 (a1 + 1)))))))))))))) else (none)) else (none)
set_option maxHeartbeats 8000000 in
set_option maxRecDepth 100000 in
theorem marginaliaref03_Next.calls (k : Nat) (a0 : ByteArray) (a1 : Int) (r1 : Int) (r2 : ByteArray) (w : World) (h : marginaliaref03_Next.f k a0 a1 = some (r1, r2)) :
  Calls Try.prog 75 #[.string a0, .int .i64 a1] w fun e w' => e = .returned (.agg #[.int .i64 r1, .string r2]) ∧ Below w.heap.size w w' := by
 have hu23 := Try.underlying23; have HB := Aside0.mk (Below.refl w.heap.size w); have H : (if 0 ≤ a1 then (if a1 < (a0.size : Int) then ((marginaliaref03_Blank.f (bt a0 a1)).bind fun t200 => (if t200 = true then (marginaliaref03_Next.l0 k a0 a1 (wrap64 (a1 + 1))) else ((marginaliaref03_remark.f a0 a1).bind fun t202 => (if t202 = true then ((marginaliaref03_line.f k a0 a1).bind fun t203 => (if a1 ≤ t203 then (if t203 ≤ (a0.size : Int) then (some (2, a0.extract (a1 : Int).toNat (t203 : Int).toNat)) else (none)) else (none))) else ((marginaliaref03_Letter.f (bt a0 a1)).bind fun t204 => (if t204 = true then (marginaliaref03_Next.l1 k a0 a1 (wrap64 (a1 + 1))) else ((marginaliaref03_Digit.f (bt a0 a1)).bind fun t211 => (if t211 = true then (marginaliaref03_Next.l2 k a0 a1 (wrap64 (a1 + 1))) else (if (bt a0 a1) = 34 then ((marginaliaref03_quoted.f k a0 a1).bind fun t213 => (if t213 > 0 then (if a1 ≤ t213 then (if t213 ≤ (a0.size : Int) then (some (6, a0.extract (a1 : Int).toNat (t213 : Int).toNat)) else (none)) else (none)) else ((marginaliaref03_line.f k a0 a1).bind fun t214 => (if a1 ≤ t214 then (if t214 ≤ (a0.size : Int) then (some (8, a0.extract (a1 : Int).toNat (t214 : Int).toNat)) else (none)) else (none))))) else ((marginaliaref03_sign.f k a0 a1).bind fun t215 => (if t215 > 0 then (if a1 ≤ (wrap64 (a1 + t215)) then (if (wrap64 (a1 + t215)) ≤ (a0.size : Int) then (some (7, a0.extract (a1 : Int).toNat ((wrap64 (a1 + t215)) : Int).toNat)) else (none)) else (none)) else (marginaliaref03_Next.l3 k a0 a1 (wrap64 (a1 + 1)))))))))))))) else (none)) else (none)) = some (r1, r2) := h; clear h; replace H := zi1 H; obtain ⟨c3b0, H⟩ := H; replace H := zi1 H; obtain ⟨c4b0, H⟩ := H; replace H := zo H; obtain ⟨t200, A6, H⟩ := H; by_cases c7 : t200 = true
 ·subst c7; rw [if_pos rfl] at H; have H' := Aside0.mk H; clear H; go_enter Try.func75, Try.ntmps75
  go_wp2_with (first | ((with_reducible refine zD 4 rfl ?_); refine zx 4 #[.int .i64 0, .string (⟨#[]⟩ : ByteArray)] 23 ?_; intro gb199 hg w8 hbox hb; have BK199 := Aside0.mk (hbox); have GW199 := (zq hg : Aside0 (w.heap.size ≤ gb199)); have GE199 := GW199; replace HB := (zB hb); clear hb hbox hg; have p5 : (0 ≤ (a1 : Int)) = True := zT; have q5 : (a1 < (a0.size : Int)) = True := zT; have hx5 := bt_at a0 a1) | ((with_reducible refine zG 93 rfl ?_); refine zg 15 Try.func93 ((marginaliaref03_Blank.calls (bt a0 a1) true _ A6.out).mono ?_); rintro e w' ⟨rfl, ⟨nd, rfl⟩⟩; refine ⟨_, rfl, ?_⟩))
  go_loopg [6] k (fun kq v6 w' => ∃ (x6_1 : Int), v6 = .int .i64 x6_1 ∧ Aside0 (marginaliaref03_Next.l0 kq a0 a1 x6_1 = some (r1, r2)) ∧ Aside0 (kq ≤ k) ∧ Aside0 (w'.heap[gb199]? = some (.cells #[.int .i64 0, .string (⟨#[]⟩ : ByteArray)] 23 (0, 0))) ∧ Aside0 (Below w.heap.size w w'))
  case atStart => exact ⟨(wrap64 (a1 + 1)), zs, H', ⟨Nat.le_refl _⟩, (zA BK199), ⟨zb⟩⟩
  case round =>
   clear H'; obtain ⟨x6_1, rfl, HA, HK1, BK199, HB⟩ := hrel
   cases gk with
   | zero => exact absurd HA.out (by simp [marginaliaref03_Next.l0])
   | succ k1 =>
    have H := HA.out; clear HA; simp only [marginaliaref03_Next.l0] at H; by_cases c9 : x6_1 < (a0.size : Int)
    ·rw [if_pos c9] at H; have c9b0 := decide_eq_true c9; clear c9; replace H := zi1 H; obtain ⟨c10b0, H⟩ := H; replace H := zo H; obtain ⟨t201, A12, H⟩ := H; by_cases c13 : t201 = true
     ·subst c13; rw [if_pos rfl] at H; have H' := Aside0.mk H; clear H; have p11 : (0 ≤ (x6_1 : Int)) = True := zT; have q11 : (x6_1 < (a0.size : Int)) = True := zT; have hx11 := bt_at a0 x6_1
      go_wp2_with (first | (go_at_call 93; (with_reducible refine (marginaliaref03_Blank.calls (bt a0 x6_1) true _ A12.out).mono ?_); rintro e w' ⟨rfl, ⟨nd, rfl⟩⟩))
      go_roundg k1
      case measure => have := HK1.out; omega
      case rel => exact ⟨(wrap64 (x6_1 + 1)), zs, H', zk, (zA BK199), ⟨zb⟩⟩
     ·replace c13 := Bool.eq_false_iff.mpr c13; subst c13; replace H := zf H; replace H := zi2 H; obtain ⟨c14b0, c14b1, H⟩ := H; replace H := zi2 H; obtain ⟨c15b0, c15b1, H⟩ := H; replace H := zi2 H; obtain ⟨c16b0, c16b1, H⟩ := H; simp only [Option.some.injEq, Prod.mk.injEq] at H; obtain ⟨rfl, rfl⟩ := H; have p11 : (0 ≤ (x6_1 : Int)) = True := zT; have q11 : (x6_1 < (a0.size : Int)) = True := zT; have hx11 := bt_at a0 x6_1
      go_wp2_with (first | (go_at_call 93; (with_reducible refine (marginaliaref03_Blank.calls (bt a0 x6_1) false _ A12.out).mono ?_); rintro e wr ⟨rfl, hd⟩; replace BK199 := zn hd BK199; replace HB := zm hd HB; clear hd; obtain ⟨hcz17_0, hcz17_1⟩ := zc2 BK199; obtain ⟨hfz17_0, hfz17_1⟩ := zz2 BK199))
      refine bodyPost_ret (results_cell_row rfl _ _ gb199 23 #[.int .i64 1, .string (a0.extract (a1 : Int).toNat (x6_1 : Int).toNat)] (0, 0) _ rfl zw Try.underlying23 rfl (by kernel_rfl)) rfl ?_; exact ⟨zr, zb⟩
    ·rw [if_neg c9] at H; have c9b0 := decide_eq_false c9; clear c9; replace H := zi2 H; obtain ⟨c18b0, c18b1, H⟩ := H; replace H := zi2 H; obtain ⟨c19b0, c19b1, H⟩ := H; replace H := zi2 H; obtain ⟨c20b0, c20b1, H⟩ := H; simp only [Option.some.injEq, Prod.mk.injEq] at H; obtain ⟨rfl, rfl⟩ := H; obtain ⟨hcz21_0, hcz21_1⟩ := zc2 BK199; obtain ⟨hfz21_0, hfz21_1⟩ := zz2 BK199; go_wp2; refine bodyPost_ret (results_cell_row rfl _ _ gb199 23 #[.int .i64 1, .string (a0.extract (a1 : Int).toNat (x6_1 : Int).toNat)] (0, 0) _ rfl zw Try.underlying23 rfl (by kernel_rfl)) rfl ?_; exact ⟨zr, zb⟩
 ·replace c7 := Bool.eq_false_iff.mpr c7; subst c7; replace H := zf H; replace H := zo H; obtain ⟨t202, A22, H⟩ := H; by_cases c23 : t202 = true
  ·subst c23; rw [if_pos rfl] at H; replace H := zo H; obtain ⟨t203, A24, H⟩ := H; have c25b0 := eq_true (zt : 0 ≤ a1); replace H := zi2 H; obtain ⟨c26b0, c26b1, H⟩ := H; replace H := zi2 H; obtain ⟨c27b0, c27b1, H⟩ := H; simp only [Option.some.injEq, Prod.mk.injEq] at H; obtain ⟨rfl, rfl⟩ := H; go_enter Try.func75, Try.ntmps75
   go_wp2_with (first | ((with_reducible refine zD 4 rfl ?_); refine zx 4 #[.int .i64 0, .string (⟨#[]⟩ : ByteArray)] 23 ?_; intro gb199 hg w28 hbox hb; have BK199 := Aside0.mk (hbox); have GW199 := (zq hg : Aside0 (w.heap.size ≤ gb199)); have GE199 := GW199; replace HB := (zB hb); clear hb hbox hg; have p5 : (0 ≤ (a1 : Int)) = True := zT; have q5 : (a1 < (a0.size : Int)) = True := zT; have hx5 := bt_at a0 a1) | ((with_reducible refine zG 93 rfl ?_); refine zg 15 Try.func93 ((marginaliaref03_Blank.calls (bt a0 a1) false _ A6.out).mono ?_); rintro e w28 ⟨rfl, hd⟩; refine ⟨_, rfl, ?_⟩; replace BK199 := zn hd BK199; replace HB := zm hd HB; clear hd) | ((with_reducible refine zG 94 rfl ?_); refine zg 36 Try.func94 ((marginaliaref03_remark.calls a0 a1 true _ A22.out).mono ?_); rintro e w28 ⟨rfl, hd⟩; refine ⟨_, rfl, ?_⟩; replace BK199 := zn hd BK199; replace HB := zm hd HB; clear hd) | ((with_reducible refine zG 95 rfl ?_); refine zg 41 Try.func95 ((marginaliaref03_line.calls k a0 a1 t203 _ A24.out).mono ?_); rintro e w28 ⟨rfl, hd⟩; refine ⟨_, rfl, ?_⟩; replace BK199 := zn hd BK199; replace HB := zm hd HB; clear hd; obtain ⟨hcz29_0, hcz29_1⟩ := zc2 BK199; obtain ⟨hfz29_0, hfz29_1⟩ := zz2 BK199))
   refine bodyPost_ret (results_cell_row rfl _ _ gb199 23 #[.int .i64 2, .string (a0.extract (a1 : Int).toNat (t203 : Int).toNat)] (0, 0) _ rfl zw Try.underlying23 rfl (by kernel_rfl)) rfl ?_; exact ⟨zr, zb⟩
  ·replace c23 := Bool.eq_false_iff.mpr c23; subst c23; replace H := zf H; replace H := zo H; obtain ⟨t204, A30, H⟩ := H; by_cases c31 : t204 = true
   ·subst c31; rw [if_pos rfl] at H; have HC32 := Aside0.mk H; clear H; go_enter Try.func75, Try.ntmps75
    go_upto_block 3 with (first | ((with_reducible refine zD 4 rfl ?_); refine zx 4 #[.int .i64 0, .string (⟨#[]⟩ : ByteArray)] 23 ?_; intro gb199 hg w33 hbox hb; have BK199 := Aside0.mk (hbox); have GW199 := (zq hg : Aside0 (w.heap.size ≤ gb199)); have GE199 := GW199; replace HB := (zB hb); clear hb hbox hg; have p5 : (0 ≤ (a1 : Int)) = True := zT; have q5 : (a1 < (a0.size : Int)) = True := zT; have hx5 := bt_at a0 a1) | ((with_reducible refine zG 93 rfl ?_); refine zg 15 Try.func93 ((marginaliaref03_Blank.calls (bt a0 a1) false _ A6.out).mono ?_); rintro e w' ⟨rfl, ⟨nd, rfl⟩⟩; refine ⟨_, rfl, ?_⟩) | ((with_reducible refine zG 94 rfl ?_); refine zg 36 Try.func94 ((marginaliaref03_remark.calls a0 a1 false _ A22.out).mono ?_); rintro e w' ⟨rfl, ⟨nd, rfl⟩⟩; refine ⟨_, rfl, ?_⟩) | ((with_reducible refine zG 96 rfl ?_); refine zg 46 Try.func96 ((marginaliaref03_Letter.calls (bt a0 a1) true _ A30.out).mono ?_); rintro e w' ⟨rfl, ⟨nd, rfl⟩⟩; refine ⟨_, rfl, ?_⟩))
    (try simp only [Act.put, List.setIfInBounds_toArray, List.set_cons_zero, List.set_cons_succ])
    go_cut [6] (fun v6 wc => ∃ (kq : Nat) (x6_31 : Int), v6 = .int .i64 x6_31 ∧ Aside0 (marginaliaref03_Next.j2 kq a0 a1 x6_31 = some (r1, r2)) ∧ Aside0 (kq ≤ k) ∧ Aside0 (wc.heap[gb199]? = some (.cells #[.int .i64 0, .string (⟨#[]⟩ : ByteArray)] 23 (0, 0))) ∧ Aside0 (Below w.heap.size w wc))
    case first =>
     have H := HC32.out; clear HC32; have H' := Aside0.mk H; clear H; go_wp2
     go_loopg [6] k (fun kq v6 w' => ∃ (x6_1 : Int), v6 = .int .i64 x6_1 ∧ Aside0 (marginaliaref03_Next.l1 kq a0 a1 x6_1 = some (r1, r2)) ∧ Aside0 (kq ≤ k) ∧ Aside0 (w'.heap[gb199]? = some (.cells #[.int .i64 0, .string (⟨#[]⟩ : ByteArray)] 23 (0, 0))) ∧ Aside0 (Below w.heap.size w w'))
     case atStart => exact ⟨(wrap64 (a1 + 1)), zs, H', ⟨Nat.le_refl _⟩, (zA BK199), ⟨zb⟩⟩
     case round =>
      clear H'; obtain ⟨x6_1, rfl, HA, HK1, BK199, HB⟩ := hrel
      cases gk with
      | zero => exact absurd HA.out (by simp [marginaliaref03_Next.l1])
      | succ k1 =>
       have H := HA.out; clear HA; simp only [marginaliaref03_Next.l1] at H; by_cases c34 : x6_1 < (a0.size : Int)
       ·rw [if_pos c34] at H; have c34b0 := decide_eq_true c34; clear c34
        (first | rw [c34b0] | (simp only [i64_w, i32_w]; rw [c34b0]) | skip)
        replace H := zi1 H; obtain ⟨c35b0, H⟩ := H; replace H := zo H; obtain ⟨t205, A37, H⟩ := H; by_cases c38 : t205 = true
        ·subst c38; rw [if_pos rfl] at H; have H' := Aside0.mk H; clear H; have p36 : (0 ≤ (x6_1 : Int)) = True := zT; have q36 : (x6_1 < (a0.size : Int)) = True := zT; have hx36 := bt_at a0 x6_1
         go_wp2_with (first | (go_at_call 96; (with_reducible refine (marginaliaref03_Letter.calls (bt a0 x6_1) true _ A37.out).mono ?_); rintro e w' ⟨rfl, ⟨nd, rfl⟩⟩))
         go_roundg k1
         case measure => have := HK1.out; omega
         case rel => exact ⟨(wrap64 (x6_1 + 1)), zs, H', zk, (zA BK199), ⟨zb⟩⟩
        ·replace c38 := Bool.eq_false_iff.mpr c38; subst c38; replace H := zf H; replace H := zo H; obtain ⟨t206, A40, H⟩ := H; by_cases c41 : t206 = true
         ·subst c41; rw [if_pos rfl] at H; have H' := Aside0.mk H; clear H; have p36 : (0 ≤ (x6_1 : Int)) = True := zT; have q36 : (x6_1 < (a0.size : Int)) = True := zT; have hx36 := bt_at a0 x6_1
          go_wp2_with (first | (go_at_call 96; (with_reducible refine (marginaliaref03_Letter.calls (bt a0 x6_1) false _ A37.out).mono ?_); rintro e w' ⟨rfl, ⟨nd, rfl⟩⟩; have p39 : (0 ≤ (x6_1 : Int)) = True := zT; have q39 : (x6_1 < (a0.size : Int)) = True := zT; have hx39 := bt_at a0 x6_1) | (go_at_call 97; (with_reducible refine (marginaliaref03_Digit.calls (bt a0 x6_1) true _ A40.out).mono ?_); rintro e w' ⟨rfl, ⟨nd, rfl⟩⟩))
          go_roundg k1
          case measure => have := HK1.out; omega
          case rel => exact ⟨(wrap64 (x6_1 + 1)), zs, H', zk, (zA BK199), ⟨zb⟩⟩
         ·replace c41 := Bool.eq_false_iff.mpr c41; subst c41; replace H := zf H; have H' := Aside0.mk H; clear H; have p36 : (0 ≤ (x6_1 : Int)) = True := zT; have q36 : (x6_1 < (a0.size : Int)) = True := zT; have hx36 := bt_at a0 x6_1
          go_wp2_with (first | (go_at_call 96; (with_reducible refine (marginaliaref03_Letter.calls (bt a0 x6_1) false _ A37.out).mono ?_); rintro e w' ⟨rfl, ⟨nd, rfl⟩⟩; have p39 : (0 ≤ (x6_1 : Int)) = True := zT; have q39 : (x6_1 < (a0.size : Int)) = True := zT; have hx39 := bt_at a0 x6_1) | (go_at_call 97; (with_reducible refine (marginaliaref03_Digit.calls (bt a0 x6_1) false _ A40.out).mono ?_); rintro e w' ⟨rfl, ⟨nd, rfl⟩⟩))
          go_meet
          case rel => exact ⟨_, (x6_1), zs, H', zk, (zA BK199), ⟨zb⟩⟩
       ·rw [if_neg c34] at H; have c34b0 := decide_eq_false c34; clear c34
        (first | rw [c34b0] | (simp only [i64_w, i32_w]; rw [c34b0]) | skip)
        have H' := Aside0.mk H; clear H; go_wp2
        go_meet
        case rel => exact ⟨_, (x6_1), zs, H', zk, (zA BK199), ⟨zb⟩⟩
    case rest =>
     clear HC32; obtain ⟨kq, x6_31, rfl, HA, HJ31, BK199, HB⟩ := hcut
     cases kq with
     | zero => exact absurd HA.out (by simp [marginaliaref03_Next.j2])
     | succ kj31 =>
      have H := HA.out; clear HA; simp only [marginaliaref03_Next.j2] at H; replace H := zo H; obtain ⟨t207, A42, H⟩ := H; replace H := zi2 H; obtain ⟨c43b0, c43b1, H⟩ := H; replace H := zi2 H; obtain ⟨c44b0, c44b1, H⟩ := H; replace H := zi2 H; obtain ⟨c45b0, c45b1, H⟩ := H; replace H := zo H; obtain ⟨t210, A46, H⟩ := H; by_cases c47 : t210 = true
      ·subst c47; rw [if_pos rfl] at H; have c48b0 := eq_true (zt : 0 ≤ a1); have c49b0 := eq_true (zt : a1 ≤ x6_31); have c50b0 := eq_true (zt : x6_31 ≤ (a0.size : Int)); simp only [Option.some.injEq, Prod.mk.injEq] at H; obtain ⟨rfl, rfl⟩ := H
       try go_wp2
       replace BK199 := Aside0.mk (blk_drew BK199.out); replace HB := Aside0.mk (below_drew1 HB.out); refine start_ (n := 6) (S := fun w' => True) (ds := []) #[false, false, false, false, false, false] (by kernel_rfl) rfl rfl trivial (fun hHeld => ?_); generalize wc.drew = w51 at BK199 HB hHeld ⊢; refine pure_ (i := 1) (N := some 66) (v := ?_) (a' := ?_) #[false, true, false, false, false, false] rfl rfl (by kernel_rfl) (fun _ _ _ h => h) (Or.inl ⟨by rfl, ?_⟩) ?_ ?_; rotate_left
       ·intro w'; go_simp; with_reducible rfl
       rotate_left
       ·simp only [Act.put, List.setIfInBounds_toArray, List.set_cons_zero, List.set_cons_succ, i64_w, i32_w]; rfl
       refine pure_ (i := 2) (N := some 67) (v := ?_) (a' := ?_) #[false, true, true, false, false, false] rfl rfl (by kernel_rfl) (fun _ _ _ h => h) (Or.inl ⟨by rfl, ?_⟩) ?_ ?_; rotate_left
       ·intro w'; go_simp; with_reducible rfl
       rotate_left
       ·simp only [Act.put, List.setIfInBounds_toArray, List.set_cons_zero, List.set_cons_succ, i64_w, i32_w]; rfl
       refine pure_ (i := 3) (N := some 68) (v := ?_) (a' := ?_) #[false, true, true, true, false, false] rfl rfl (by kernel_rfl) (fun _ _ _ h => h) (Or.inl ⟨by rfl, ?_⟩) ?_ ?_; rotate_left
       ·intro w'; go_simp; with_reducible rfl
       rotate_left
       ·simp only [Act.put, List.setIfInBounds_toArray, List.set_cons_zero, List.set_cons_succ, i64_w, i32_w]; rfl
       refine pure_ (i := 4) (N := some 69) (v := ?_) (a' := ?_) #[false, true, true, true, true, false] rfl rfl (by kernel_rfl) (fun _ _ _ h => h) (Or.inl ⟨by rfl, ?_⟩) ?_ ?_; rotate_left
       ·intro w'; go_simp; with_reducible rfl
       rotate_left
       ·simp only [Act.put, List.setIfInBounds_toArray, List.set_cons_zero, List.set_cons_succ, i64_w, i32_w]; rfl
       refine one_ (i := 0) (N := some 65) #[true, true, true, true, true, false] rfl rfl (by kernel_rfl) (by decide) (fun K hK => ?_); refine goes_ Try.func99 (by kernel_rfl) rfl #[] (by rfl) rfl rfl (by (try simp only [List.map_toArray, List.map_cons, List.map_nil]); first | done | rfl | (simp only [List.length_drop, List.length_take]; rfl)) ?_
       with_reducible refine (marginaliaref03_Words.calls  t207 _ A42.out).mono ?_
       rintro e w52 ⟨v208, rfl, ho0, hb⟩; refine ⟨_, rfl, ?_⟩; have HO209 := Aside0.mk (Kd.R_lower ho0 (below_size zb))
       replace BK199 := (zK BK199 hb)
       replace HB := (zB hb)
       (try clear hb)
       (try clear hb2)
       (try clear hk)
       (try clear hi)
       (try clear ho0)
       obtain ⟨Ao53, co53, eo53⟩ := Kd.R_slice HO209.out
       (first | subst eo53 | (injection eo53 with f1_ f2_ f3_; have f4_ := f1_.symm; have f5_ := f3_.symm; clear f1_ f2_ f3_; subst f4_; subst f5_))
       refine hK.out _ _ trivial (fun hHeld => ?_); clear hK K; refine norm_ (a' := ?_) ?_ ?_; rotate_left
       ·show Act.put _ (some 65) _ = _
        simp only [Act.put, List.setIfInBounds_toArray, List.set_cons_zero, List.set_cons_succ, i64_w, i32_w]; rfl
       refine one_ (i := 5) (N := some 70) #[true, true, true, true, true, true] rfl rfl (by kernel_rfl) (by decide) (fun K hK => ?_); refine goes_ Try.func98 (by kernel_rfl) rfl #[.slice Ao53 t207.length co53, .string (a0.extract (a1 : Int).toNat (x6_31 : Int).toNat)] (by rfl) rfl rfl (by (try simp only [List.map_toArray, List.map_cons, List.map_nil]); first | done | rfl | (simp only [List.length_drop, List.length_take]; rfl)) ?_
       with_reducible refine (marginaliaref03_has.calls kj31 _ _ t207 (a0.extract (a1 : Int).toNat (x6_31 : Int).toNat) true _ ?side1 ?side2 A46.out).mono ?_
       (case side1 => exact zE' (Kd.R_reads' HO209.out).2.2)
       (case side2 => exact (Kd.R_reads' HO209.out).2.1)
       rintro e w' ⟨rfl, ⟨nd, rfl⟩⟩; refine ⟨_, rfl, ?_⟩; refine hK.out _ _ trivial (fun hHeld => ?_); clear hK K; refine norm_ (a' := ?_) ?_ ?_; rotate_left
       ·show Act.put _ (some 70) _ = _
        simp only [Act.put, List.setIfInBounds_toArray, List.set_cons_zero, List.set_cons_succ, i64_w, i32_w]; rfl
       refine done_ (by kernel_rfl) ?_; obtain ⟨hcz54_0, hcz54_1⟩ := zc2 BK199; obtain ⟨hfz54_0, hfz54_1⟩ := zz2 BK199
       try go_wp2
       refine bodyPost_ret (results_cell_row rfl _ _ gb199 23 #[.int .i64 4, .string (a0.extract (a1 : Int).toNat (x6_31 : Int).toNat)] (0, 0) _ rfl zw Try.underlying23 rfl (by kernel_rfl)) rfl ?_; exact ⟨zr, zb⟩
      ·replace c47 := Bool.eq_false_iff.mpr c47; subst c47; replace H := zf H; have c55b0 := eq_true (zt : 0 ≤ a1); have c56b0 := eq_true (zt : a1 ≤ x6_31); have c57b0 := eq_true (zt : x6_31 ≤ (a0.size : Int)); simp only [Option.some.injEq, Prod.mk.injEq] at H; obtain ⟨rfl, rfl⟩ := H
       try go_wp2
       replace BK199 := Aside0.mk (blk_drew BK199.out); replace HB := Aside0.mk (below_drew1 HB.out); refine start_ (n := 6) (S := fun w' => True) (ds := []) #[false, false, false, false, false, false] (by kernel_rfl) rfl rfl trivial (fun hHeld => ?_); generalize wc.drew = w58 at BK199 HB hHeld ⊢; refine pure_ (i := 1) (N := some 66) (v := ?_) (a' := ?_) #[false, true, false, false, false, false] rfl rfl (by kernel_rfl) (fun _ _ _ h => h) (Or.inl ⟨by rfl, ?_⟩) ?_ ?_; rotate_left
       ·intro w'; go_simp; with_reducible rfl
       rotate_left
       ·simp only [Act.put, List.setIfInBounds_toArray, List.set_cons_zero, List.set_cons_succ, i64_w, i32_w]; rfl
       refine pure_ (i := 2) (N := some 67) (v := ?_) (a' := ?_) #[false, true, true, false, false, false] rfl rfl (by kernel_rfl) (fun _ _ _ h => h) (Or.inl ⟨by rfl, ?_⟩) ?_ ?_; rotate_left
       ·intro w'; go_simp; with_reducible rfl
       rotate_left
       ·simp only [Act.put, List.setIfInBounds_toArray, List.set_cons_zero, List.set_cons_succ, i64_w, i32_w]; rfl
       refine pure_ (i := 3) (N := some 68) (v := ?_) (a' := ?_) #[false, true, true, true, false, false] rfl rfl (by kernel_rfl) (fun _ _ _ h => h) (Or.inl ⟨by rfl, ?_⟩) ?_ ?_; rotate_left
       ·intro w'; go_simp; with_reducible rfl
       rotate_left
       ·simp only [Act.put, List.setIfInBounds_toArray, List.set_cons_zero, List.set_cons_succ, i64_w, i32_w]; rfl
       refine pure_ (i := 4) (N := some 69) (v := ?_) (a' := ?_) #[false, true, true, true, true, false] rfl rfl (by kernel_rfl) (fun _ _ _ h => h) (Or.inl ⟨by rfl, ?_⟩) ?_ ?_; rotate_left
       ·intro w'; go_simp; with_reducible rfl
       rotate_left
       ·simp only [Act.put, List.setIfInBounds_toArray, List.set_cons_zero, List.set_cons_succ, i64_w, i32_w]; rfl
       refine one_ (i := 0) (N := some 65) #[true, true, true, true, true, false] rfl rfl (by kernel_rfl) (by decide) (fun K hK => ?_); refine goes_ Try.func99 (by kernel_rfl) rfl #[] (by rfl) rfl rfl (by (try simp only [List.map_toArray, List.map_cons, List.map_nil]); first | done | rfl | (simp only [List.length_drop, List.length_take]; rfl)) ?_
       with_reducible refine (marginaliaref03_Words.calls  t207 _ A42.out).mono ?_
       rintro e w59 ⟨v208, rfl, ho0, hb⟩; refine ⟨_, rfl, ?_⟩; have HO209 := Aside0.mk (Kd.R_lower ho0 (below_size zb))
       replace BK199 := (zK BK199 hb)
       replace HB := (zB hb)
       (try clear hb)
       (try clear hb2)
       (try clear hk)
       (try clear hi)
       (try clear ho0)
       obtain ⟨Ao60, co60, eo60⟩ := Kd.R_slice HO209.out
       (first | subst eo60 | (injection eo60 with f1_ f2_ f3_; have f4_ := f1_.symm; have f5_ := f3_.symm; clear f1_ f2_ f3_; subst f4_; subst f5_))
       refine hK.out _ _ trivial (fun hHeld => ?_); clear hK K; refine norm_ (a' := ?_) ?_ ?_; rotate_left
       ·show Act.put _ (some 65) _ = _
        simp only [Act.put, List.setIfInBounds_toArray, List.set_cons_zero, List.set_cons_succ, i64_w, i32_w]; rfl
       refine one_ (i := 5) (N := some 70) #[true, true, true, true, true, true] rfl rfl (by kernel_rfl) (by decide) (fun K hK => ?_); refine goes_ Try.func98 (by kernel_rfl) rfl #[.slice Ao60 t207.length co60, .string (a0.extract (a1 : Int).toNat (x6_31 : Int).toNat)] (by rfl) rfl rfl (by (try simp only [List.map_toArray, List.map_cons, List.map_nil]); first | done | rfl | (simp only [List.length_drop, List.length_take]; rfl)) ?_
       with_reducible refine (marginaliaref03_has.calls kj31 _ _ t207 (a0.extract (a1 : Int).toNat (x6_31 : Int).toNat) false _ ?side1 ?side2 A46.out).mono ?_
       (case side1 => exact zE' (Kd.R_reads' HO209.out).2.2)
       (case side2 => exact (Kd.R_reads' HO209.out).2.1)
       rintro e w' ⟨rfl, ⟨nd, rfl⟩⟩; refine ⟨_, rfl, ?_⟩; refine hK.out _ _ trivial (fun hHeld => ?_); clear hK K; refine norm_ (a' := ?_) ?_ ?_; rotate_left
       ·show Act.put _ (some 70) _ = _
        simp only [Act.put, List.setIfInBounds_toArray, List.set_cons_zero, List.set_cons_succ, i64_w, i32_w]; rfl
       refine done_ (by kernel_rfl) ?_; obtain ⟨hcz61_0, hcz61_1⟩ := zc2 BK199; obtain ⟨hfz61_0, hfz61_1⟩ := zz2 BK199
       try go_wp2
       refine bodyPost_ret (results_cell_row rfl _ _ gb199 23 #[.int .i64 3, .string (a0.extract (a1 : Int).toNat (x6_31 : Int).toNat)] (0, 0) _ rfl zw Try.underlying23 rfl (by kernel_rfl)) rfl ?_; exact ⟨zr, zb⟩
   ·replace c31 := Bool.eq_false_iff.mpr c31; subst c31; replace H := zf H; replace H := zo H; obtain ⟨t211, A62, H⟩ := H; by_cases c63 : t211 = true
    ·subst c63; rw [if_pos rfl] at H; have H' := Aside0.mk H; clear H; go_enter Try.func75, Try.ntmps75
     go_wp2_with (first | ((with_reducible refine zD 4 rfl ?_); refine zx 4 #[.int .i64 0, .string (⟨#[]⟩ : ByteArray)] 23 ?_; intro gb199 hg w64 hbox hb; have BK199 := Aside0.mk (hbox); have GW199 := (zq hg : Aside0 (w.heap.size ≤ gb199)); have GE199 := GW199; replace HB := (zB hb); clear hb hbox hg; have p5 : (0 ≤ (a1 : Int)) = True := zT; have q5 : (a1 < (a0.size : Int)) = True := zT; have hx5 := bt_at a0 a1) | ((with_reducible refine zG 93 rfl ?_); refine zg 15 Try.func93 ((marginaliaref03_Blank.calls (bt a0 a1) false _ A6.out).mono ?_); rintro e w' ⟨rfl, ⟨nd, rfl⟩⟩; refine ⟨_, rfl, ?_⟩) | ((with_reducible refine zG 94 rfl ?_); refine zg 36 Try.func94 ((marginaliaref03_remark.calls a0 a1 false _ A22.out).mono ?_); rintro e w' ⟨rfl, ⟨nd, rfl⟩⟩; refine ⟨_, rfl, ?_⟩) | ((with_reducible refine zG 96 rfl ?_); refine zg 46 Try.func96 ((marginaliaref03_Letter.calls (bt a0 a1) false _ A30.out).mono ?_); rintro e w' ⟨rfl, ⟨nd, rfl⟩⟩; refine ⟨_, rfl, ?_⟩) | ((with_reducible refine zG 97 rfl ?_); refine zg 83 Try.func97 ((marginaliaref03_Digit.calls (bt a0 a1) true _ A62.out).mono ?_); rintro e w' ⟨rfl, ⟨nd, rfl⟩⟩; refine ⟨_, rfl, ?_⟩))
     go_loopg [6] k (fun kq v6 w' => ∃ (x6_1 : Int), v6 = .int .i64 x6_1 ∧ Aside0 (marginaliaref03_Next.l2 kq a0 a1 x6_1 = some (r1, r2)) ∧ Aside0 (kq ≤ k) ∧ Aside0 (w'.heap[gb199]? = some (.cells #[.int .i64 0, .string (⟨#[]⟩ : ByteArray)] 23 (0, 0))) ∧ Aside0 (Below w.heap.size w w'))
     case atStart => exact ⟨(wrap64 (a1 + 1)), zs, H', ⟨Nat.le_refl _⟩, (zA BK199), ⟨zb⟩⟩
     case round =>
      clear H'; obtain ⟨x6_1, rfl, HA, HK1, BK199, HB⟩ := hrel
      cases gk with
      | zero => exact absurd HA.out (by simp [marginaliaref03_Next.l2])
      | succ k1 =>
       have H := HA.out; clear HA; simp only [marginaliaref03_Next.l2] at H; by_cases c65 : x6_1 < (a0.size : Int)
       ·rw [if_pos c65] at H; have c65b0 := decide_eq_true c65; clear c65; replace H := zi1 H; obtain ⟨c66b0, H⟩ := H; replace H := zo H; obtain ⟨t212, A68, H⟩ := H; by_cases c69 : t212 = true
        ·subst c69; rw [if_pos rfl] at H; have H' := Aside0.mk H; clear H; have p67 : (0 ≤ (x6_1 : Int)) = True := zT; have q67 : (x6_1 < (a0.size : Int)) = True := zT; have hx67 := bt_at a0 x6_1
         go_wp2_with (first | (go_at_call 97; (with_reducible refine (marginaliaref03_Digit.calls (bt a0 x6_1) true _ A68.out).mono ?_); rintro e w' ⟨rfl, ⟨nd, rfl⟩⟩))
         go_roundg k1
         case measure => have := HK1.out; omega
         case rel => exact ⟨(wrap64 (x6_1 + 1)), zs, H', zk, (zA BK199), ⟨zb⟩⟩
        ·replace c69 := Bool.eq_false_iff.mpr c69; subst c69; replace H := zf H; replace H := zi2 H; obtain ⟨c70b0, c70b1, H⟩ := H; replace H := zi2 H; obtain ⟨c71b0, c71b1, H⟩ := H; replace H := zi2 H; obtain ⟨c72b0, c72b1, H⟩ := H; simp only [Option.some.injEq, Prod.mk.injEq] at H; obtain ⟨rfl, rfl⟩ := H; have p67 : (0 ≤ (x6_1 : Int)) = True := zT; have q67 : (x6_1 < (a0.size : Int)) = True := zT; have hx67 := bt_at a0 x6_1
         go_wp2_with (first | (go_at_call 97; (with_reducible refine (marginaliaref03_Digit.calls (bt a0 x6_1) false _ A68.out).mono ?_); rintro e wr ⟨rfl, hd⟩; replace BK199 := zn hd BK199; replace HB := zm hd HB; clear hd; obtain ⟨hcz73_0, hcz73_1⟩ := zc2 BK199; obtain ⟨hfz73_0, hfz73_1⟩ := zz2 BK199))
         refine bodyPost_ret (results_cell_row rfl _ _ gb199 23 #[.int .i64 5, .string (a0.extract (a1 : Int).toNat (x6_1 : Int).toNat)] (0, 0) _ rfl zw Try.underlying23 rfl (by kernel_rfl)) rfl ?_; exact ⟨zr, zb⟩
       ·rw [if_neg c65] at H; have c65b0 := decide_eq_false c65; clear c65; replace H := zi2 H; obtain ⟨c74b0, c74b1, H⟩ := H; replace H := zi2 H; obtain ⟨c75b0, c75b1, H⟩ := H; replace H := zi2 H; obtain ⟨c76b0, c76b1, H⟩ := H; simp only [Option.some.injEq, Prod.mk.injEq] at H; obtain ⟨rfl, rfl⟩ := H; obtain ⟨hcz77_0, hcz77_1⟩ := zc2 BK199; obtain ⟨hfz77_0, hfz77_1⟩ := zz2 BK199; go_wp2; refine bodyPost_ret (results_cell_row rfl _ _ gb199 23 #[.int .i64 5, .string (a0.extract (a1 : Int).toNat (x6_1 : Int).toNat)] (0, 0) _ rfl zw Try.underlying23 rfl (by kernel_rfl)) rfl ?_; exact ⟨zr, zb⟩
    ·replace c63 := Bool.eq_false_iff.mpr c63; subst c63; replace H := zf H; by_cases c78 : (bt a0 a1) = 34
     ·rw [if_pos c78] at H; have c78b0 : ((bt a0 a1) == 34) = true := beq_iff_eq.mpr c78; have c78b1 : ((bt a0 a1) != 34) = false := bne_eq_false_iff_eq.mpr c78; clear c78; replace H := zo H; obtain ⟨t213, A79, H⟩ := H; by_cases c80 : t213 > 0
      ·rw [if_pos c80] at H; have c80b0 := decide_eq_true c80; clear c80; have c81b0 := eq_true (zt : 0 ≤ a1); replace H := zi2 H; obtain ⟨c82b0, c82b1, H⟩ := H; replace H := zi2 H; obtain ⟨c83b0, c83b1, H⟩ := H; simp only [Option.some.injEq, Prod.mk.injEq] at H; obtain ⟨rfl, rfl⟩ := H; go_enter Try.func75, Try.ntmps75
       go_wp2_with (first | ((with_reducible refine zD 4 rfl ?_); refine zx 4 #[.int .i64 0, .string (⟨#[]⟩ : ByteArray)] 23 ?_; intro gb199 hg w84 hbox hb; have BK199 := Aside0.mk (hbox); have GW199 := (zq hg : Aside0 (w.heap.size ≤ gb199)); have GE199 := GW199; replace HB := (zB hb); clear hb hbox hg; have p5 : (0 ≤ (a1 : Int)) = True := zT; have q5 : (a1 < (a0.size : Int)) = True := zT; have hx5 := bt_at a0 a1) | ((with_reducible refine zG 93 rfl ?_); refine zg 15 Try.func93 ((marginaliaref03_Blank.calls (bt a0 a1) false _ A6.out).mono ?_); rintro e w84 ⟨rfl, hd⟩; refine ⟨_, rfl, ?_⟩; replace BK199 := zn hd BK199; replace HB := zm hd HB; clear hd) | ((with_reducible refine zG 94 rfl ?_); refine zg 36 Try.func94 ((marginaliaref03_remark.calls a0 a1 false _ A22.out).mono ?_); rintro e w84 ⟨rfl, hd⟩; refine ⟨_, rfl, ?_⟩; replace BK199 := zn hd BK199; replace HB := zm hd HB; clear hd) | ((with_reducible refine zG 96 rfl ?_); refine zg 46 Try.func96 ((marginaliaref03_Letter.calls (bt a0 a1) false _ A30.out).mono ?_); rintro e w84 ⟨rfl, hd⟩; refine ⟨_, rfl, ?_⟩; replace BK199 := zn hd BK199; replace HB := zm hd HB; clear hd) | ((with_reducible refine zG 97 rfl ?_); refine zg 83 Try.func97 ((marginaliaref03_Digit.calls (bt a0 a1) false _ A62.out).mono ?_); rintro e w84 ⟨rfl, hd⟩; refine ⟨_, rfl, ?_⟩; replace BK199 := zn hd BK199; replace HB := zm hd HB; clear hd) | ((with_reducible refine zG 100 rfl ?_); refine zg 106 Try.func100 ((marginaliaref03_quoted.calls k a0 a1 t213 _ A79.out).mono ?_); rintro e w84 ⟨rfl, hd⟩; refine ⟨_, rfl, ?_⟩; replace BK199 := zn hd BK199; replace HB := zm hd HB; clear hd; obtain ⟨hcz85_0, hcz85_1⟩ := zc2 BK199; obtain ⟨hfz85_0, hfz85_1⟩ := zz2 BK199))
       refine bodyPost_ret (results_cell_row rfl _ _ gb199 23 #[.int .i64 6, .string (a0.extract (a1 : Int).toNat (t213 : Int).toNat)] (0, 0) _ rfl zw Try.underlying23 rfl (by kernel_rfl)) rfl ?_; exact ⟨zr, zb⟩
      ·rw [if_neg c80] at H; have c80b0 := decide_eq_false c80; clear c80; replace H := zo H; obtain ⟨t214, A86, H⟩ := H; have c87b0 := eq_true (zt : 0 ≤ a1); replace H := zi2 H; obtain ⟨c88b0, c88b1, H⟩ := H; replace H := zi2 H; obtain ⟨c89b0, c89b1, H⟩ := H; simp only [Option.some.injEq, Prod.mk.injEq] at H; obtain ⟨rfl, rfl⟩ := H; go_enter Try.func75, Try.ntmps75
       go_wp2_with (first | ((with_reducible refine zD 4 rfl ?_); refine zx 4 #[.int .i64 0, .string (⟨#[]⟩ : ByteArray)] 23 ?_; intro gb199 hg w90 hbox hb; have BK199 := Aside0.mk (hbox); have GW199 := (zq hg : Aside0 (w.heap.size ≤ gb199)); have GE199 := GW199; replace HB := (zB hb); clear hb hbox hg; have p5 : (0 ≤ (a1 : Int)) = True := zT; have q5 : (a1 < (a0.size : Int)) = True := zT; have hx5 := bt_at a0 a1) | ((with_reducible refine zG 93 rfl ?_); refine zg 15 Try.func93 ((marginaliaref03_Blank.calls (bt a0 a1) false _ A6.out).mono ?_); rintro e w90 ⟨rfl, hd⟩; refine ⟨_, rfl, ?_⟩; replace BK199 := zn hd BK199; replace HB := zm hd HB; clear hd) | ((with_reducible refine zG 94 rfl ?_); refine zg 36 Try.func94 ((marginaliaref03_remark.calls a0 a1 false _ A22.out).mono ?_); rintro e w90 ⟨rfl, hd⟩; refine ⟨_, rfl, ?_⟩; replace BK199 := zn hd BK199; replace HB := zm hd HB; clear hd) | ((with_reducible refine zG 96 rfl ?_); refine zg 46 Try.func96 ((marginaliaref03_Letter.calls (bt a0 a1) false _ A30.out).mono ?_); rintro e w90 ⟨rfl, hd⟩; refine ⟨_, rfl, ?_⟩; replace BK199 := zn hd BK199; replace HB := zm hd HB; clear hd) | ((with_reducible refine zG 97 rfl ?_); refine zg 83 Try.func97 ((marginaliaref03_Digit.calls (bt a0 a1) false _ A62.out).mono ?_); rintro e w90 ⟨rfl, hd⟩; refine ⟨_, rfl, ?_⟩; replace BK199 := zn hd BK199; replace HB := zm hd HB; clear hd) | ((with_reducible refine zG 100 rfl ?_); refine zg 106 Try.func100 ((marginaliaref03_quoted.calls k a0 a1 t213 _ A79.out).mono ?_); rintro e w90 ⟨rfl, hd⟩; refine ⟨_, rfl, ?_⟩; replace BK199 := zn hd BK199; replace HB := zm hd HB; clear hd) | ((with_reducible refine zG 95 rfl ?_); refine zg 118 Try.func95 ((marginaliaref03_line.calls k a0 a1 t214 _ A86.out).mono ?_); rintro e w90 ⟨rfl, hd⟩; refine ⟨_, rfl, ?_⟩; replace BK199 := zn hd BK199; replace HB := zm hd HB; clear hd; obtain ⟨hcz91_0, hcz91_1⟩ := zc2 BK199; obtain ⟨hfz91_0, hfz91_1⟩ := zz2 BK199))
       refine bodyPost_ret (results_cell_row rfl _ _ gb199 23 #[.int .i64 8, .string (a0.extract (a1 : Int).toNat (t214 : Int).toNat)] (0, 0) _ rfl zw Try.underlying23 rfl (by kernel_rfl)) rfl ?_; exact ⟨zr, zb⟩
     ·rw [if_neg c78] at H; have c78b0 : ((bt a0 a1) == 34) = false := beq_eq_false_iff_ne.mpr c78; have c78b1 : ((bt a0 a1) != 34) = true := bne_iff_ne.mpr c78; replace H := zo H; obtain ⟨t215, A92, H⟩ := H; by_cases c93 : t215 > 0
      ·rw [if_pos c93] at H; have c93b0 := decide_eq_true c93; clear c93; have c94b0 := eq_true (zt : 0 ≤ a1); replace H := zi H; obtain ⟨c95, H⟩ := H; have c95b0 := eq_true c95; have c95b1 : decide (a1 ≤ (wrap64 (a1 + t215))) = true := decide_eq_true c95; replace H := zi H; obtain ⟨c96, H⟩ := H; have c96b0 := eq_true c96; have c96b1 : decide ((wrap64 (a1 + t215)) ≤ (a0.size : Int)) = true := decide_eq_true c96; simp only [Option.some.injEq, Prod.mk.injEq] at H; obtain ⟨rfl, rfl⟩ := H; go_enter Try.func75, Try.ntmps75
       go_wp2_with (first | ((with_reducible refine zD 4 rfl ?_); refine zx 4 #[.int .i64 0, .string (⟨#[]⟩ : ByteArray)] 23 ?_; intro gb199 hg w97 hbox hb; have BK199 := Aside0.mk (hbox); have GW199 := (zq hg : Aside0 (w.heap.size ≤ gb199)); have GE199 := GW199; replace HB := (zB hb); clear hb hbox hg; have p5 : (0 ≤ (a1 : Int)) = True := zT; have q5 : (a1 < (a0.size : Int)) = True := zT; have hx5 := bt_at a0 a1) | ((with_reducible refine zG 93 rfl ?_); refine zg 15 Try.func93 ((marginaliaref03_Blank.calls (bt a0 a1) false _ A6.out).mono ?_); rintro e w97 ⟨rfl, hd⟩; refine ⟨_, rfl, ?_⟩; replace BK199 := zn hd BK199; replace HB := zm hd HB; clear hd) | ((with_reducible refine zG 94 rfl ?_); refine zg 36 Try.func94 ((marginaliaref03_remark.calls a0 a1 false _ A22.out).mono ?_); rintro e w97 ⟨rfl, hd⟩; refine ⟨_, rfl, ?_⟩; replace BK199 := zn hd BK199; replace HB := zm hd HB; clear hd) | ((with_reducible refine zG 96 rfl ?_); refine zg 46 Try.func96 ((marginaliaref03_Letter.calls (bt a0 a1) false _ A30.out).mono ?_); rintro e w97 ⟨rfl, hd⟩; refine ⟨_, rfl, ?_⟩; replace BK199 := zn hd BK199; replace HB := zm hd HB; clear hd) | ((with_reducible refine zG 97 rfl ?_); refine zg 83 Try.func97 ((marginaliaref03_Digit.calls (bt a0 a1) false _ A62.out).mono ?_); rintro e w97 ⟨rfl, hd⟩; refine ⟨_, rfl, ?_⟩; replace BK199 := zn hd BK199; replace HB := zm hd HB; clear hd) | ((with_reducible refine zG 101 rfl ?_); refine zg 123 Try.func101 ((marginaliaref03_sign.calls k a0 a1 t215 _ A92.out).mono ?_); rintro e w98 ⟨rfl, hb⟩; refine ⟨_, rfl, ?_⟩; replace BK199 := (zK BK199 hb); replace HB := (zB hb); (try clear hb); (try clear hb2); (try clear hk); (try clear hi); obtain ⟨hcz99_0, hcz99_1⟩ := zc2 BK199; obtain ⟨hfz99_0, hfz99_1⟩ := zz2 BK199))
       refine bodyPost_ret (results_cell_row rfl _ _ gb199 23 #[.int .i64 7, .string (a0.extract (a1 : Int).toNat ((wrap64 (a1 + t215)) : Int).toNat)] (0, 0) _ rfl zw Try.underlying23 rfl (by kernel_rfl)) rfl ?_; exact ⟨zr, zb⟩
      ·rw [if_neg c93] at H; have c93b0 := decide_eq_false c93; clear c93; have H' := Aside0.mk H; clear H; go_enter Try.func75, Try.ntmps75
       go_wp2_with (first | ((with_reducible refine zD 4 rfl ?_); refine zx 4 #[.int .i64 0, .string (⟨#[]⟩ : ByteArray)] 23 ?_; intro gb199 hg w100 hbox hb; have BK199 := Aside0.mk (hbox); have GW199 := (zq hg : Aside0 (w.heap.size ≤ gb199)); have GE199 := GW199; replace HB := (zB hb); clear hb hbox hg; have p5 : (0 ≤ (a1 : Int)) = True := zT; have q5 : (a1 < (a0.size : Int)) = True := zT; have hx5 := bt_at a0 a1) | ((with_reducible refine zG 93 rfl ?_); refine zg 15 Try.func93 ((marginaliaref03_Blank.calls (bt a0 a1) false _ A6.out).mono ?_); rintro e w' ⟨rfl, ⟨nd, rfl⟩⟩; refine ⟨_, rfl, ?_⟩) | ((with_reducible refine zG 94 rfl ?_); refine zg 36 Try.func94 ((marginaliaref03_remark.calls a0 a1 false _ A22.out).mono ?_); rintro e w' ⟨rfl, ⟨nd, rfl⟩⟩; refine ⟨_, rfl, ?_⟩) | ((with_reducible refine zG 96 rfl ?_); refine zg 46 Try.func96 ((marginaliaref03_Letter.calls (bt a0 a1) false _ A30.out).mono ?_); rintro e w' ⟨rfl, ⟨nd, rfl⟩⟩; refine ⟨_, rfl, ?_⟩) | ((with_reducible refine zG 97 rfl ?_); refine zg 83 Try.func97 ((marginaliaref03_Digit.calls (bt a0 a1) false _ A62.out).mono ?_); rintro e w' ⟨rfl, ⟨nd, rfl⟩⟩; refine ⟨_, rfl, ?_⟩) | ((with_reducible refine zG 101 rfl ?_); refine zg 123 Try.func101 ((marginaliaref03_sign.calls k a0 a1 t215 _ A92.out).mono ?_); rintro e w101 ⟨rfl, hb⟩; refine ⟨_, rfl, ?_⟩; replace BK199 := (zK BK199 hb); replace HB := (zB hb); (try clear hb); (try clear hb2); (try clear hk); (try clear hi)))
       go_loopg [6] k (fun kq v6 w' => ∃ (x6_1 : Int), v6 = .int .i64 x6_1 ∧ Aside0 (marginaliaref03_Next.l3 kq a0 a1 x6_1 = some (r1, r2)) ∧ Aside0 (kq ≤ k) ∧ Aside0 (w'.heap[gb199]? = some (.cells #[.int .i64 0, .string (⟨#[]⟩ : ByteArray)] 23 (0, 0))) ∧ Aside0 (Below w.heap.size w w'))
       case atStart => exact ⟨(wrap64 (a1 + 1)), zs, H', ⟨Nat.le_refl _⟩, (zA BK199), ⟨zb⟩⟩
       case round =>
        clear H'; obtain ⟨x6_1, rfl, HA, HK1, BK199, HB⟩ := hrel
        cases gk with
        | zero => exact absurd HA.out (by simp [marginaliaref03_Next.l3])
        | succ k1 =>
         have H := HA.out; clear HA; simp only [marginaliaref03_Next.l3] at H; by_cases c102 : x6_1 < (a0.size : Int)
         ·rw [if_pos c102] at H; have c102b0 := decide_eq_true c102; clear c102; replace H := zo H; obtain ⟨t216, A103, H⟩ := H; by_cases c104 : t216 = true
          ·subst c104; rw [if_pos rfl] at H; replace H := zi2 H; obtain ⟨c105b0, c105b1, H⟩ := H; replace H := zi2 H; obtain ⟨c106b0, c106b1, H⟩ := H; replace H := zi2 H; obtain ⟨c107b0, c107b1, H⟩ := H; simp only [Option.some.injEq, Prod.mk.injEq] at H; obtain ⟨rfl, rfl⟩ := H
           go_wp2_with (first | (go_at_call 102; (with_reducible refine (marginaliaref03_begins.calls k1 a0 x6_1 true _ A103.out).mono ?_); rintro e w108 ⟨rfl, hb⟩; replace BK199 := (zK BK199 hb); replace HB := (zB hb); (try clear hb); (try clear hb2); (try clear hk); (try clear hi); obtain ⟨hcz109_0, hcz109_1⟩ := zc2 BK199; obtain ⟨hfz109_0, hfz109_1⟩ := zz2 BK199))
           refine bodyPost_ret (results_cell_row rfl _ _ gb199 23 #[.int .i64 8, .string (a0.extract (a1 : Int).toNat (x6_1 : Int).toNat)] (0, 0) _ rfl zw Try.underlying23 rfl (by kernel_rfl)) rfl ?_; exact ⟨zr, zb⟩
          ·replace c104 := Bool.eq_false_iff.mpr c104; subst c104; replace H := zf H; have H' := Aside0.mk H; clear H
           go_wp2_with (first | (go_at_call 102; (with_reducible refine (marginaliaref03_begins.calls k1 a0 x6_1 false _ A103.out).mono ?_); rintro e w110 ⟨rfl, hb⟩; replace BK199 := (zK BK199 hb); replace HB := (zB hb); (try clear hb); (try clear hb2); (try clear hk); (try clear hi)))
           go_roundg k1
           case measure => have := HK1.out; omega
           case rel => exact ⟨(wrap64 (x6_1 + 1)), zs, H', zk, (zA BK199), ⟨zb⟩⟩
         ·rw [if_neg c102] at H; have c102b0 := decide_eq_false c102; clear c102; replace H := zi2 H; obtain ⟨c111b0, c111b1, H⟩ := H; replace H := zi2 H; obtain ⟨c112b0, c112b1, H⟩ := H; replace H := zi2 H; obtain ⟨c113b0, c113b1, H⟩ := H; simp only [Option.some.injEq, Prod.mk.injEq] at H; obtain ⟨rfl, rfl⟩ := H; obtain ⟨hcz114_0, hcz114_1⟩ := zc2 BK199; obtain ⟨hfz114_0, hfz114_1⟩ := zz2 BK199; go_wp2; refine bodyPost_ret (results_cell_row rfl _ _ gb199 23 #[.int .i64 8, .string (a0.extract (a1 : Int).toNat (x6_1 : Int).toNat)] (0, 0) _ rfl zw Try.underlying23 rfl (by kernel_rfl)) rfl ?_; exact ⟨zr, zb⟩

end Go.Proofs.Ytnafnieocpkkhaa.P

set_option linter.unusedVariables false
set_option linter.unusedSimpArgs false
namespace Go.Proofs.Ytnafnieocpkkhaa.P
open Go.RowKit Go.Proofs.YtnafnieocpkkhaaW.PrintWords Go.Proofs.YtnafnieocpkkhaaW.PrintLast Go.Proofs.YtnafnieocpkkhaaW.PrintMore
/-! ### bytes -/
abbrev Bs := List UInt8
theorem bt_drop {s : ByteArray} {i : Nat} {c : UInt8} {r : Bs} (h : s.data.toList.drop i = c :: r) : i < s.size ∧ bt s (i : Int) = (c.toNat : Int) := by
 have h0 : i < s.size := by
  have := congrArg List.length h; simp only [List.length_drop, List.length_cons] at this; rw [Ut.size_data] at this
  omega
 refine ⟨h0, ?_⟩; rw [← bt_at s (i : Int) h0]
 have h1 : s.data.toList[i]? = some c := by
  have := congrArg (fun x : Bs => x[0]?) h
  simpa [List.getElem?_drop] using this
 have h2 : s.data[i]? = some c := (by rw [← Array.getElem?_toList]; exact h1)
 have h3 : s.data[i]? = some (s.data[i]'h0) := Array.getElem?_eq_getElem h0; rw [h3] at h2; injection h2 with h2
 show ((s.data[i]'h0).toNat : Int) = _
 rw [h2]
theorem nil_drop {s : ByteArray} {i : Nat} (h : s.data.toList.drop i = []) : s.size ≤ i := by
 have := le_of_nil h; rw [Ut.size_data] at this; exact this
theorem ext_list (s : ByteArray) (a b : Nat) : (s.extract a b).data.toList = (s.data.toList.drop a).take (b - a) := by
 rw [ByteArray.data_extract, Array.toList_extract, List.extract_eq_take_drop]
theorem drop_cons_of_lt {s : ByteArray} {i : Nat} (h : i < s.size) : ∃ c r, s.data.toList.drop i = c :: r := by
 cases e : s.data.toList.drop i with
 | nil => have := nil_drop e; omega
 | cons c r => exact ⟨c, r, rfl⟩
def bk (c : UInt8) : Bool := c == 32 || c == 9 || c == 10 || c == 13
def lt (c : UInt8) : Bool := (decide (97 ≤ c.toNat) && decide (c.toNat ≤ 122)) || (decide (65 ≤ c.toNat) && decide (c.toNat ≤ 90)) || c == 95
def dg (c : UInt8) : Bool := decide (48 ≤ c.toNat) && decide (c.toNat ≤ 57)
def ld (c : UInt8) : Bool := lt c || dg c
theorem byte_all {P : UInt8 → Prop} [DecidablePred P] (h : ∀ n : Fin 256, P (UInt8.ofNat n.val)) (c : UInt8) : P c := by
 have := h ⟨c.toNat, UInt8.toNat_lt c⟩
 simpa using this
theorem iblank (c : UInt8) : token_isBlank.f (c.toNat : Int) = some (bk c) := byte_all (P := fun c => token_isBlank.f (c.toNat : Int) = some (bk c)) (by decide +kernel) c
theorem iletter (c : UInt8) : token_isLetter.f (c.toNat : Int) = some (lt c) := byte_all (P := fun c => token_isLetter.f (c.toNat : Int) = some (lt c)) (by decide +kernel) c
theorem idigit (c : UInt8) : token_isDigit.f (c.toNat : Int) = some (dg c) := byte_all (P := fun c => token_isDigit.f (c.toNat : Int) = some (dg c)) (by decide +kernel) c
theorem iletdig (c : UInt8) : token_good.letdig (c.toNat : Int) = some (ld c) := by
 unfold token_good.letdig ld; rw [iletter]
 show (if lt c = true then some true else token_isDigit.f (c.toNat : Int)) = _
 rw [idigit]
 cases lt c <;> rfl
/-- How many bytes at the beginning are of a sort. -/
def rn (p : UInt8 → Bool) : Bs → Nat
 | [] => 0
 | c :: r => if p c = true then rn p r + 1 else 0
theorem rn_le (p : UInt8 → Bool) : ∀ l, rn p l ≤ l.length
 | [] => Nat.le_refl _
 | c :: r => by
  rw [rn]
  split
  ·have := rn_le p r; simp only [List.length_cons]; omega
  ·omega
theorem irun {q : Int → Option Bool} {p : UInt8 → Bool} (h : ∀ c : UInt8, q (c.toNat : Int) = some (p c)) : ∀ l : Bs, token_good.run q l = some (rn p l)
 | [] => rfl
 | c :: r => by
  rw [token_good.run, h c, rn]
  show (if p c = true then (token_good.run q r).map (· + 1) else some 0) = _
  split
  ·rw [irun h r]; rfl
  ·rfl
def nl (c : UInt8) : Bool := c != 10
theorem index_rn (l : Bs) : (Lib.indexByte l 10 = -1 ∧ rn nl l = l.length) ∨ Lib.indexByte l 10 = (rn nl l : Int) := by
 induction l with
 | nil => exact .inl ⟨rfl, rfl⟩
 | cons c r ih =>
  rw [Lib.indexByte, rn]; by_cases hc : c = 10
  ·subst hc
   right
   simp [nl]
  ·have h1 : (c == 10) = false := beq_eq_false_iff_ne.2 hc
   have h2 : nl c = true := (by simp [nl, hc])
   rw [if_neg (by rw [h1]; decide), if_pos h2]
   rcases ih with ⟨e1, e2⟩ | e
   ·rw [e1]
    left
    exact ⟨by simp, by simp [e2]⟩
   ·right
    rw [e]; have : ((rn nl r : Int) == -1) = false := beq_eq_false_iff_ne.2 (by omega); rw [this]
    simp
theorem iline (s : ByteArray) : token_line.f s = some (rn nl s.data.toList : Int) := by
 unfold token_line.f strings_IndexByte.f
 show (if Lib.indexByte s.data.toList 10 ≥ 0 then _ else _) = _
 rcases index_rn s.data.toList with ⟨e1, e2⟩ | e
 ·rw [e1, if_neg (by decide), e2, Ut.size_data]
 ·have e' : Lib.indexByte s.data.toList (Int.toNat 10).toUInt8 = (rn nl s.data.toList : Int) := e; rw [e, if_pos (by omega), e']
/-! ### words and signs -/
def ws : List Bs := [[100, 101, 102], [101, 108, 115, 101], [102, 97, 108, 115, 101], [102, 110], [105, 102], [105, 109, 112, 111, 114, 116], [105, 110], [108, 101, 116], [109, 97, 116, 99, 104], [116, 104, 101, 110], [116, 114, 117, 101], [116, 121, 112, 101]]
def sg : List Bs := [[33], [38, 38], [40], [41], [42], [43], [44], [45], [45, 62], [46], [58], [59], [60], [61], [61, 61], [61, 62], [91], [93], [123], [124], [124, 124], [125]]
def chain (x : Bs) : List Bs → Option Bool
 | [] => some false
 | y :: r => if x = y then some true else chain x r
theorem chain_eq (x : Bs) : ∀ l, chain x l = some (decide (x ∈ l))
 | [] => by simp [chain]
 | y :: r => by
  rw [chain, chain_eq x r]; by_cases h : x = y
  ·simp [h]
  ·simp [h]
theorem iword (s : ByteArray) : token_isWord.f s = some (decide (s.data.toList ∈ ws)) := by
 rw [← chain_eq, ← Lib.toList_data]; rfl
theorem isign (s : ByteArray) : token_isSign.f s = some (decide (s.data.toList ∈ sg)) := by
 rw [← chain_eq, ← Lib.toList_data]; rfl
/-- The bytes of the sign at the beginning. -/
def sn (l : Bs) : Nat := if 2 ≤ l.length ∧ l.take 2 ∈ sg then 2 else if l.take 1 ∈ sg then 1 else 0
theorem isn (s : ByteArray) (h0 : 0 < s.size) (hz : s.size ≤ 1000000000) : Ev (fun k => token_sign.f k s) (sn s.data.toList : Int) := by
 have hl := Ut.size_data s; have e2 : (s.extract 0 2).data.toList = s.data.toList.take 2 := ext_list s 0 2; have e1 : (s.extract 0 1).data.toList = s.data.toList.take 1 := ext_list s 0 1
 have one : Ev (fun k => token_sign.l0 k s 1) ((if s.data.toList.take 1 ∈ sg then 1 else 0 : Nat) : Int) := by
  refine Ev.shift ?_; simp only [token_sign.l0]; refine Ev.pos (by decide) (Ev.pos (by decide) (Ev.pos (by omega) ?_)); refine Ev.bind1 (isign _) ?_; rw [show ((1 : Int)).toNat = 1 from rfl, e1]; by_cases h : s.data.toList.take 1 ∈ sg
  ·rw [if_pos h]; exact Ev.pos (decide_eq_true h) (Ev.now _)
  ·rw [if_neg h]; refine Ev.neg (by rw [decide_eq_false h]; decide) (Ev.shift ?_); simp only [token_sign.l0]; rw [w64 (n := (1 : Int) - 1) (by omega) (by omega)]; exact Ev.neg (by decide) (Ev.now _)
 unfold token_sign.f sn; by_cases h2 : 2 ≤ s.size
 ·rw [show mn 2 (s.size : Int) = 2 by unfold mn; split <;> omega]; refine Ev.shift ?_; simp only [token_sign.l0]; refine Ev.pos (by decide) (Ev.pos (by decide) (Ev.pos (by omega) ?_)); refine Ev.bind1 (isign _) ?_; rw [show ((2 : Int)).toNat = 2 from rfl, e2]; by_cases h : s.data.toList.take 2 ∈ sg
  ·rw [if_pos ⟨by omega, h⟩]; exact Ev.pos (decide_eq_true h) (Ev.now _)
  ·rw [if_neg (fun x => h x.2)]; rw [w64 (n := (2 : Int) - 1) (by omega) (by omega)]; exact Ev.neg (by rw [decide_eq_false h]; decide) one
 ·rw [show mn 2 (s.size : Int) = 1 by unfold mn; split <;> omega, if_neg (fun x => by omega)]; exact one
/-! ### quotes -/
/-- The bytes up to the closing quote. -/
def qt : Bs → Option Nat
 | [] => none
 | c :: r => if c = 34 then some 1 else if c = 10 then none else if c = 92 then (match r with | [] => none | d :: r' => if d = 110 ∨ d = 34 ∨ d = 92 then (qt r').map (· + 2) else none) else (qt r).map (· + 1)
def qe (i : Nat) : Option Nat → Int
 | none => 0
 | some n => ((i + n : Nat) : Int)
theorem qe_map (i j : Nat) (x : Option Nat) : qe i (x.map (· + j)) = qe (i + j) x := by
 cases x with
 | none => rfl
 | some n => show ((i + (n + j) : Nat) : Int) = ((i + j + n : Nat) : Int); omega
theorem qt_pos : ∀ (m : Nat) (l : Bs), l.length ≤ m → ∀ n, qt l = some n → 0 < n ∧ n ≤ l.length := by
 intro m
 induction m with
 | zero =>
  intro l hl n h; obtain rfl : l = [] := List.eq_nil_of_length_eq_zero (by omega)
  simp [qt] at h
 | succ m ih =>
  intro l hl n h
  cases l with
  | nil => simp [qt] at h
  | cons c r =>
   rw [qt.eq_def] at h; simp only at h; simp only [List.length_cons] at hl ⊢
   split at h
   ·injection h with h; omega
   ·split at h
    ·cases h
    ·split at h
     ·cases r with
      | nil => cases h
      | cons d r' =>
       simp only at h
       split at h
       ·cases e : qt r' with
        | none => rw [e] at h; cases h
        | some x =>
         rw [e, Option.map_some] at h; injection h with h; have h : x + 2 = n := h; have := ih r' (by simp only [List.length_cons] at hl; omega) x e; simp only [List.length_cons]
         omega
       ·cases h
     ·cases e : qt r with
      | none => rw [e] at h; cases h
      | some x =>
       rw [e, Option.map_some] at h; injection h with h; have h : x + 1 = n := h; have := ih r (by omega) x e
       omega
theorem byte_int (c : UInt8) (n : Nat) (hn : n < 256) : ((c.toNat : Int) = (n : Int)) ↔ c = UInt8.ofNat n := by
 constructor
 ·intro h
  have h : c.toNat = n := (by exact_mod_cast h)
  rw [← h]
  simp
 ·intro h; rw [h, UInt8.toNat_ofNat_of_lt' hn]
theorem esc (c : UInt8) : Lib.indexByte [110, 34, 92] ((c.toNat : Int)).toNat.toUInt8 < 0 ↔ ¬ (c = 110 ∨ c = 34 ∨ c = 92) :=
 byte_all (P := fun c => Lib.indexByte [110, 34, 92] ((c.toNat : Int)).toNat.toUInt8 < 0 ↔ ¬ (c = 110 ∨ c = 34 ∨ c = 92)) (by decide +kernel) c
theorem iqt (s : ByteArray) (hz : s.size ≤ 1000000000) : ∀ (m : Nat) (l : Bs) (i : Nat), l.length ≤ m → s.data.toList.drop i = l → Ev (fun k => token_quoted.l0 k s (i : Int)) (qe i (qt l)) := by
 intro m
 induction m with
 | zero =>
  intro l i hl h; obtain rfl : l = [] := List.eq_nil_of_length_eq_zero (by omega); have := nil_drop h; refine Ev.shift ?_; simp only [token_quoted.l0, qt, qe]; exact Ev.neg (by omega) (Ev.now _)
 | succ m ih =>
  intro l i hl h
  cases l with
  | nil =>
   have := nil_drop h; refine Ev.shift ?_; simp only [token_quoted.l0, qt, qe]; exact Ev.neg (by omega) (Ev.now _)
  | cons c r =>
   obtain ⟨hlt, hb⟩ := bt_drop h; simp only [List.length_cons] at hl; refine Ev.shift ?_; simp only [token_quoted.l0]; rw [hb, w64 (n := (i : Int) + 1) (by omega) (by omega), w64 (n := (i : Int) + 1 + 1) (by omega) (by omega)]; refine Ev.pos (by omega) (Ev.pos (by omega) ?_); rw [qt.eq_def]; simp only; by_cases h1 : c = 34
   ·rw [if_pos h1]; exact Ev.pos ((byte_int c 34 (by decide)).2 h1) (Ev.now _)
   ·rw [if_neg h1]; refine Ev.neg (fun x => h1 ((byte_int c 34 (by decide)).1 x)) ?_; by_cases h2 : c = 10
    ·rw [if_pos h2]; exact Ev.pos ((byte_int c 10 (by decide)).2 h2) (Ev.now _)
    ·rw [if_neg h2]; refine Ev.neg (fun x => h2 ((byte_int c 10 (by decide)).1 x)) ?_; by_cases h3 : c = 92
     ·rw [if_pos h3]; refine Ev.pos ((byte_int c 92 (by decide)).2 h3) ?_; have hr := drop_next h
      cases r with
      | nil =>
       have := nil_drop hr; exact Ev.pos (by omega) (Ev.now _)
      | cons d r' =>
       obtain ⟨hlt', hb'⟩ := bt_drop hr; have hb' : bt s ((i : Int) + 1) = (d.toNat : Int) := hb'; rw [hb']; refine Ev.neg (by omega) (Ev.pos (by omega) (Ev.pos (by omega) ?_)); refine Ev.bind1 rfl ?_; simp only; by_cases h4 : d = 110 ∨ d = 34 ∨ d = 92
       ·rw [if_pos h4, qe_map]; refine Ev.neg (fun x => (esc d).1 x h4) ?_; have := ih r' (i + 2) (by simp at hl; omega) (drop_next hr); rw [show (i : Int) + 1 + 1 = ((i + 2 : Nat) : Int) by omega]; exact this
       ·rw [if_neg h4]; exact Ev.pos ((esc d).2 h4) (Ev.now _)
     ·rw [if_neg h3, qe_map]; refine Ev.neg (fun x => h3 ((byte_int c 92 (by decide)).1 x)) ?_
      exact_mod_cast ih r (i + 1) (by omega) (drop_next h)
end Go.Proofs.Ytnafnieocpkkhaa.P

set_option linter.unusedVariables false
set_option linter.unusedSimpArgs false
namespace Go.Proofs.Ytnafnieocpkkhaa.P
open Go.RowKit Go.Proofs.YtnafnieocpkkhaaW.PrintWords Go.Proofs.YtnafnieocpkkhaaW.PrintLast Go.Proofs.YtnafnieocpkkhaaW.PrintMore
def qn : Option Nat → Nat
 | none => 0
 | some n => n + 1
theorem qe_qn (x : Option Nat) : qe 1 x = (qn x : Int) := by
 cases x with
 | none => rfl
 | some n => show ((1 + n : Nat) : Int) = ((n + 1 : Nat) : Int); omega
theorem qn_le (r : Bs) : qn (qt r) ≤ r.length + 1 := by
 cases e : qt r with
 | none => exact Nat.zero_le _
 | some n => have := qt_pos r.length r (Nat.le_refl _) n e; show n + 1 ≤ _; omega
/-- The token at the beginning that is not bad: its kind and its bytes; no bytes: there is none. -/
def gd : Bs → Int × Nat
 | [] => (0, 0)
 | c :: r =>
  if bk c = true then (1, rn bk (c :: r)) else
  if (c :: r).take 2 = [47, 47] then (2, rn nl (c :: r)) else
  if lt c = true then (if (c :: r).take (rn ld (c :: r)) ∈ ws then 4 else 3, rn ld (c :: r)) else
  if dg c = true then (5, rn dg (c :: r)) else
  if c = 34 then (6, qn (qt r)) else (7, sn (c :: r))
theorem gd_cons (c : UInt8) (r : Bs) : gd (c :: r) =
  if bk c = true then (1, rn bk (c :: r)) else
  if (c :: r).take 2 = [47, 47] then (2, rn nl (c :: r)) else
  if lt c = true then (if (c :: r).take (rn ld (c :: r)) ∈ ws then 4 else 3, rn ld (c :: r)) else
  if dg c = true then (5, rn dg (c :: r)) else
  if c = 34 then (6, qn (qt r)) else (7, sn (c :: r)) := rfl
theorem sn_le (c : UInt8) (r : Bs) : sn (c :: r) ≤ (c :: r).length := by
 unfold sn
 split
 ·rename_i h; exact h.1
 ·split <;> simp
theorem gd_le (l : Bs) : (gd l).2 ≤ l.length := by
 cases l with
 | nil => exact Nat.le_refl _
 | cons c r =>
  rw [gd_cons]
  (repeat' split) <;> first | exact rn_le _ _ | exact qn_le r | exact sn_le c r
theorem isize (s : ByteArray) : s.data.toList.length = s.size := Ut.size_data s
theorem fin_eq (s : ByteArray) (kind : Int) (n : Nat) (h : n ≤ s.size) : token_good.fin s kind (n : Int) = some (kind, s.extract 0 n, decide (0 < n)) := by
 unfold token_good.fin; rw [if_pos (by omega), if_pos (by omega), Int.toNat_natCast]
 congr 3
 exact decide_eq_decide.2 (by omega)
theorem remark_eq (s : ByteArray) : strings_HasPrefix.f s ⟨#[47, 47]⟩ = some (decide (s.data.toList.take 2 = [47, 47])) := by
 have e2 : (s.extract 0 2).data.toList = s.data.toList.take 2 := ext_list s 0 2; have hl := isize s; unfold strings_HasPrefix.f stringslite_HasPrefix.f; have h2 : (((⟨#[47, 47]⟩ : ByteArray).size : Nat) : Int) = 2 := rfl; rw [h2]; by_cases h : (s.size : Int) ≥ 2
 ·rw [if_pos h, if_pos (by decide), if_pos (by omega)]
  show some _ = _
  rw [show ((2 : Int)).toNat = 2 from rfl, Lib.toList_data, e2, Lib.toList_data]
  congr 1
  exact Bool.eq_iff_iff.2 (by rw [beq_iff_eq, decide_eq_true_eq])
 ·rw [if_neg h]
  show some false = _
  congr 1
  symm
  apply decide_eq_false
  intro e; have := congrArg List.length e; rw [List.length_take] at this; simp only [List.length_cons, List.length_nil] at this
  omega
theorem good_ev (s : ByteArray) (c : UInt8) (r : Bs) (hs : s.data.toList = c :: r) (hz : s.size ≤ 1000000000) : Ev (fun k => token_good.f k s) ((gd (c :: r)).1, s.extract 0 (gd (c :: r)).2, decide (0 < (gd (c :: r)).2)) := by
 have hb : 0 < s.size ∧ bt s 0 = (c.toNat : Int) := bt_drop (i := 0) hs; have hl := isize s; have hg := gd_le (c :: r); rw [← hs, hl, hs] at hg; unfold token_good.f; refine Ev.pos (by omega) (Ev.pos hb.1 ?_); rw [hb.2]; refine Ev.bind1 (iblank c) ?_; unfold gd at hg ⊢; by_cases h1 : bk c = true
 ·simp only [if_pos h1] at hg ⊢; rw [irun iblank, hs]; exact Ev.congr (fun _ => fin_eq s 1 _ hg) (Ev.now _)
 ·simp only [if_neg h1] at hg ⊢; refine Ev.bind1 (remark_eq s) ?_; rw [hs]; by_cases h2 : (c :: r).take 2 = [47, 47]
  ·simp only [if_pos h2] at hg ⊢; refine Ev.pos (decide_eq_true h2) (Ev.bind1 (iline s) ?_); rw [hs]; exact Ev.congr (fun _ => fin_eq s 2 _ hg) (Ev.now _)
  ·simp only [if_neg h2] at hg ⊢; refine Ev.neg (by rw [decide_eq_false h2]; decide) (Ev.bind1 (iletter c) ?_); by_cases h3 : lt c = true
   ·simp only [if_pos h3] at hg ⊢; rw [irun iletdig]; refine Ev.pos hg (Ev.bind1 (iword _) ?_); rw [show (s.extract 0 (rn ld (c :: r))).data.toList = (c :: r).take (rn ld (c :: r)) by rw [← hs]; exact ext_list s 0 _]; by_cases h4 : (c :: r).take (rn ld (c :: r)) ∈ ws
    ·simp only [if_pos h4, decide_eq_true h4, if_true]; exact Ev.congr (fun _ => fin_eq s 4 _ hg) (Ev.now _)
    ·simp only [if_neg h4, decide_eq_false h4]; exact Ev.congr (fun _ => fin_eq s 3 _ hg) (Ev.now _)
   ·simp only [if_neg h3] at hg ⊢; refine Ev.bind1 (idigit c) ?_; by_cases h4 : dg c = true
    ·simp only [if_pos h4] at hg ⊢; rw [irun idigit]; exact Ev.congr (fun _ => fin_eq s 5 _ hg) (Ev.now _)
    ·simp only [if_neg h4] at hg ⊢; by_cases h5 : c = 34
     ·simp only [if_pos h5] at hg ⊢; refine Ev.pos ((byte_int c 34 (by decide)).2 h5) ?_
      have hq : Ev (fun k => token_quoted.f k s) (qn (qt r) : Int) := by
       rw [← qe_qn]
       have hd : s.data.toList.drop 1 = r := (by rw [hs]; rfl)
       exact iqt s hz r.length r 1 (Nat.le_refl _) hd
      exact Ev.bind hq (Ev.congr (fun _ => fin_eq s 6 _ hg) (Ev.now _))
     ·simp only [if_neg h5] at hg ⊢; refine Ev.neg (fun x => h5 ((byte_int c 34 (by decide)).1 x)) ?_; have hq := isn s hb.1 hz; rw [hs] at hq; exact Ev.bind hq (Ev.congr (fun _ => fin_eq s 7 _ hg) (Ev.now _))
/-- How many bytes a bad token goes on. -/
def sk : Bs → Nat
 | [] => 0
 | c :: r => if c = 34 ∨ 0 < (gd (c :: r)).2 then 0 else sk r + 1
theorem sk_le : ∀ l : Bs, sk l ≤ l.length
 | [] => Nat.le_refl _
 | c :: r => by
  rw [sk]
  split
  ·omega
  ·have := sk_le r; simp only [List.length_cons]; omega
/-- The token at the beginning. -/
def nx : Bs → Int × Nat
 | [] => (0, 0)
 | c :: r => if 0 < (gd (c :: r)).2 then gd (c :: r) else if c = 34 then (8, rn nl (c :: r)) else (8, sk r + 1)
theorem nx_cons (c : UInt8) (r : Bs) : nx (c :: r) = if 0 < (gd (c :: r)).2 then gd (c :: r) else if c = 34 then (8, rn nl (c :: r)) else (8, sk r + 1) := rfl
theorem nx_pos (c : UInt8) (r : Bs) : 0 < (nx (c :: r)).2 ∧ (nx (c :: r)).2 ≤ (c :: r).length := by
 rw [nx_cons]
 split
 ·rename_i h; exact ⟨h, gd_le _⟩
 ·split
  ·rename_i h
   refine ⟨?_, rn_le _ _⟩; rw [rn, if_pos (by rw [h]; decide)]
   omega
  ·have := sk_le r; exact ⟨Nat.succ_pos _, by simp only [List.length_cons]; omega⟩
theorem ext_suf (s : ByteArray) (i : Nat) : (s.extract i s.size).data.toList = s.data.toList.drop i := by
 rw [ext_list, List.take_of_length_le]; rw [List.length_drop, isize]; exact Nat.le_refl _
theorem next_loop (s : ByteArray) (hz : s.size ≤ 1000000000) : ∀ (r : Bs) (i : Nat), s.data.toList.drop i = r → i ≤ s.size → Ev (fun k => token_next.l0 k s (i : Int)) (8, s.extract 0 (i + sk r)) := by
 intro r
 induction r with
 | nil =>
  intro i h hi; have := nil_drop h; refine Ev.shift ?_; simp only [token_next.l0]; refine Ev.neg (by omega) (Ev.shift ?_); simp only [token_next.j1, sk]; refine Ev.neg (by decide) (Ev.pos (by omega) (Ev.pos (by omega) ?_)); exact Ev.now _
 | cons c r ih =>
  intro i h hi; obtain ⟨hlt, hb⟩ := bt_drop h; refine Ev.shift ?_; simp only [token_next.l0]; refine Ev.pos (by omega) (Ev.pos (by omega) (Ev.shift ?_)); simp only [token_next.j1]; rw [hb, sk]; by_cases h1 : c = 34
  ·subst h1; have e1 : (if (34 : UInt8) = 34 ∨ 0 < (gd (34 :: r)).2 then 0 else sk r + 1) = 0 := if_pos (.inl rfl); rw [e1]; refine Ev.neg (by decide) (Ev.pos (by omega) (Ev.pos (by omega) ?_)); exact Ev.now _
  ·refine Ev.pos (by rw [bne_iff_ne]; exact fun x => h1 ((byte_int c 34 (by decide)).1 x)) (Ev.pos (by omega) (Ev.pos (by omega) ?_))
   have hs : (s.extract i s.size).data.toList = c :: r := (by rw [ext_suf, h])
   have hsz : (s.extract i s.size).size ≤ 1000000000 := (by rw [ByteArray.size_extract]; omega)
   refine Ev.bind (good_ev _ c r hs hsz) ?_; simp only; by_cases h2 : 0 < (gd (c :: r)).2
   ·rw [if_pos (.inr h2)]; refine Ev.pos (decide_eq_true h2) ?_; exact Ev.now _
   ·rw [if_neg (fun x => x.elim h1 h2), w64 (n := (i : Int) + 1) (by omega) (by omega)]; refine Ev.neg (by rw [decide_eq_false h2]; decide) ?_; have := ih (i + 1) (drop_next h) (by omega); rw [show i + 1 + sk r = i + (sk r + 1) by omega] at this
    exact_mod_cast this
theorem next_ev (s : ByteArray) (c : UInt8) (r : Bs) (hs : s.data.toList = c :: r) (hz : s.size ≤ 1000000000) : Ev (fun k => token_next.f k s) ((nx (c :: r)).1, s.extract 0 (nx (c :: r)).2) := by
 have hb : 0 < s.size ∧ bt s 0 = (c.toNat : Int) := bt_drop (i := 0) hs; have hl := isize s; unfold token_next.f; refine Ev.bind (good_ev s c r hs hz) ?_; simp only; rw [nx_cons]; by_cases h : 0 < (gd (c :: r)).2
 ·rw [if_pos h]; exact Ev.pos (decide_eq_true h) (Ev.now _)
 ·rw [if_neg h, hb.2]; refine Ev.neg (by rw [decide_eq_false h]; decide) (Ev.pos (by omega) ?_); by_cases h5 : c = 34
  ·rw [if_pos h5]; refine Ev.pos ((byte_int c 34 (by decide)).2 h5) (Ev.bind1 (iline s) ?_); have := rn_le nl s.data.toList; rw [hl] at this; rw [← hs]; refine Ev.pos (by omega) (Ev.pos (by omega) ?_); exact Ev.now _
  ·rw [if_neg h5]; refine Ev.neg (fun x => h5 ((byte_int c 34 (by decide)).1 x)) ?_; have := next_loop s hz r 1 (by rw [hs]; rfl) hb.1; rw [Nat.add_comm] at this; exact this
/-- The tokens of a string. -/
def lx : Nat → ByteArray → List S23
 | 0, _ => []
 | m + 1, s => if s.size = 0 then [] else ⟨(nx s.data.toList).1, s.extract 0 (nx s.data.toList).2⟩ :: lx m (s.extract (nx s.data.toList).2 s.size)
theorem lex_ev : ∀ (m : Nat) (s : ByteArray) (acc : List S23), s.size ≤ m → s.size ≤ 1000000000 → acc.length + s.size ≤ 1000000000 → Ev (fun k => token_Lex.l0 k s acc) (acc ++ lx m s, 0) := by
 intro m
 induction m with
 | zero =>
  intro s acc h hz ha; have h0 : s.data.toList = [] := List.eq_nil_of_length_eq_zero (by rw [isize]; omega); refine Ev.shift ?_; simp only [token_Lex.l0]; refine Ev.pos (by rw [Lib.toList_data]; exact h0) ?_; rw [lx, List.append_nil]; exact Ev.now _
 | succ m ih =>
  intro s acc h hz ha; refine Ev.shift ?_; simp only [token_Lex.l0]; by_cases h0 : s.size = 0
  ·have h0' : s.data.toList = [] := List.eq_nil_of_length_eq_zero (by rw [isize]; omega); refine Ev.pos (by rw [Lib.toList_data]; exact h0') ?_; rw [lx, if_pos h0, List.append_nil]; exact Ev.now _
  ·obtain ⟨c, r, hs⟩ := drop_cons_of_lt (s := s) (i := 0) (by omega); have hs : s.data.toList = c :: r := hs; refine Ev.neg (by rw [Lib.toList_data, hs]; exact fun e => by cases e) (Ev.bind (next_ev s c r hs hz) ?_); obtain ⟨n1, n2⟩ := nx_pos c r; rw [← hs] at n1 n2 ⊢; rw [isize] at n2; rw [lx, if_neg h0]
   have hx : (s.extract 0 (nx s.data.toList).2).size = (nx s.data.toList).2 := (by rw [ByteArray.size_extract]; omega)
   have hy : (s.extract (nx s.data.toList).2 s.size).size = s.size - (nx s.data.toList).2 := (by rw [ByteArray.size_extract]; omega)
   simp only [hx]; refine Ev.pos (by omega) (Ev.pos (by omega) (Ev.pos (by omega) ?_)); rw [Int.toNat_natCast]; have := ih (s.extract (nx s.data.toList).2 s.size) (acc ++ [⟨(nx s.data.toList).1, s.extract 0 (nx s.data.toList).2⟩]) (by omega) (by omega) (by rw [List.length_append]; simp only [List.length_cons, List.length_nil]; omega); rw [List.append_assoc] at this; exact this
theorem lx_one (m : Nat) (s : ByteArray) (h0 : 0 < s.size) (hm : s.size ≤ m) : ∃ R, lx m s = ⟨(nx s.data.toList).1, s.extract 0 (nx s.data.toList).2⟩ :: R ∧ (R.length = 0 ↔ (nx s.data.toList).2 = s.size) := by
 obtain ⟨c, r, hs⟩ := drop_cons_of_lt (s := s) (i := 0) (by omega); have hs : s.data.toList = c :: r := hs; obtain ⟨n1, n2⟩ := nx_pos c r; rw [← hs] at n1 n2; rw [isize] at n2
 cases m with
 | zero => omega
 | succ m =>
  rw [lx, if_neg (by omega)]; refine ⟨_, rfl, ?_⟩
  have hy : (s.extract (nx s.data.toList).2 s.size).size = s.size - (nx s.data.toList).2 := (by rw [ByteArray.size_extract]; omega)
  constructor
  ·intro h
   cases m with
   | zero => omega
   | succ m =>
    rw [lx] at h
    split at h
    ·omega
    ·simp at h
  ·intro h
   cases m with
   | zero => rfl
   | succ m =>
    rw [lx, if_pos (by omega)]; rfl
/-- Is a token one? -/
def tok (kind : Int) (s : ByteArray) : Bool := decide (0 < s.size ∧ s.size ≤ 20000 ∧ nx s.data.toList = (kind, s.size))
theorem istoken_ev (kind : Int) (s : ByteArray) (hz : s.size ≤ 1000000000) : Ev (fun k => token_IsToken.f k kind s) (tok kind s) := by
 unfold token_IsToken.f; by_cases h0 : s.size = 0
 ·have h0' : s.data.toList = [] := List.eq_nil_of_length_eq_zero (by rw [isize]; omega); rw [show tok kind s = false from decide_eq_false (fun h => by omega)]; exact Ev.pos (by rw [Lib.toList_data]; exact h0') (Ev.now _)
 ·obtain ⟨c, r, hs⟩ := drop_cons_of_lt (s := s) (i := 0) (by omega); have hs : s.data.toList = c :: r := hs; refine Ev.neg (by rw [Lib.toList_data, hs]; exact fun e => by cases e) ?_
  have hbind : Ev (fun k => token_are.f k [⟨kind, s⟩]) (tok kind s) := by
   unfold token_are.f token_Text.f
   have hj : token_joined.f [⟨kind, s⟩] = some (if s.size ≤ 20000 then (⟨s.data⟩, true) else (⟨#[]⟩, false)) := by
    unfold token_joined.f token_joined.go; rw [if_neg (by simp)]
    show (if (s.size : Int) > 20000 then some (⟨#[]⟩, false) else token_joined.go [] ([] ++ s.data.toList)) = _
    by_cases h : s.size ≤ 20000
    ·rw [if_neg (by omega), if_pos h, token_joined.go]; have e2 : decide (((([] : Bs) ++ s.data.toList).length : Int) ≤ 20000) = true := decide_eq_true (by rw [List.nil_append, isize]; omega); rw [e2, List.nil_append]
    ·rw [if_pos (by omega), if_neg h]
   have hT : Ev (fun k => (token_joined.f [⟨kind, s⟩]).bind fun bt160 => if bt160.2 = true then token_Text.j0 k [⟨kind, s⟩] bt160.1 (decide ((([⟨kind, s⟩] : List S23).length : Int) > 20000)) else token_Text.j0 k [⟨kind, s⟩] bt160.1 true) (if tok kind s = true then (s, 0) else (⟨#[]⟩, if s.size ≤ 20000 then 4 else 3)) := by
    refine Ev.bind1 hj ?_; by_cases h : s.size ≤ 20000
    ·simp only [if_pos h]; have e1 : decide ((([⟨kind, s⟩] : List S23).length : Int) > 20000) = false := decide_eq_false (by simp); rw [e1]; refine Ev.pos trivial (Ev.shift ?_); simp only [token_Text.j0]; refine Ev.neg (by decide) ?_
     have hL : Ev (fun k => token_Lex.f k s) ([] ++ lx s.size s, 0) := by
      unfold token_Lex.f; exact Ev.neg (by omega) (lex_ev s.size s [] (Nat.le_refl _) hz (by simpa using hz))
     obtain ⟨R, hR, hR0⟩ := lx_one s.size s (by omega) (Nat.le_refl _); refine Ev.bind hL ?_; rw [List.nil_append, hR]; simp only
     have hA : Ev (fun k => api_Token.f k (⟨(nx s.data.toList).1, s.extract 0 (nx s.data.toList).2⟩ :: R) [⟨kind, s⟩]) (tok kind s) := by
      unfold api_Token.f; by_cases hn : (nx s.data.toList).2 = s.size
      ·obtain rfl : R = [] := List.eq_nil_of_length_eq_zero (hR0.2 hn); refine Ev.pos rfl (Ev.shift ?_); simp only [api_Token.l0]; refine Ev.pos (by simp) (Ev.pos (by simp) (Ev.pos (by simp) (Ev.pos (by simp) ?_)))
       have hw : (s.extract 0 (nx s.data.toList).2).toList = s.toList := by
        rw [Lib.toList_data, Lib.toList_data, ext_list, hn]; exact List.take_of_length_le (by rw [List.drop_zero, isize]; omega)
       have hx : rd_T23 [⟨(nx s.data.toList).1, s.extract 0 (nx s.data.toList).2⟩] 0 = ⟨(nx s.data.toList).1, s.extract 0 (nx s.data.toList).2⟩ := rfl; have hy : rd_T23 [⟨kind, s⟩] 0 = ⟨kind, s⟩ := rfl; rw [hx, hy]; simp only; rw [hw, beq_self_eq_true]; by_cases hk : (nx s.data.toList).1 = kind
       ·rw [show tok kind s = true from decide_eq_true ⟨by omega, h, Prod.ext hk hn⟩, hk]; refine Ev.neg (by simp) (Ev.shift ?_); simp only [api_Token.l0]; exact Ev.neg (by rw [w64 (n := (0 : Int) + 1) (by omega) (by omega)]; simp) (Ev.now _)
       ·rw [show tok kind s = false from decide_eq_false (fun x => hk (congrArg Prod.fst x.2.2))]; refine Ev.pos ?_ (Ev.now _)
        simp [hk]
      ·rw [show tok kind s = false from decide_eq_false (fun x => hn (congrArg Prod.snd x.2.2))]; refine Ev.neg (fun x => ?_) (Ev.now _); simp only [List.length_cons, List.length_nil] at x; exact hn (hR0.1 (by omega))
     refine Ev.bind hA ?_; by_cases ht : tok kind s = true
     ·rw [ht]; exact Ev.pos rfl (Ev.now _)
     ·rw [Bool.not_eq_true] at ht; rw [ht]; exact Ev.neg (by decide) (Ev.now _)
    ·simp only [if_neg h]; rw [show tok kind s = false from decide_eq_false (fun x => h x.2.1)]; refine Ev.neg (by decide) (Ev.shift ?_); simp only [token_Text.j0, if_true]; exact Ev.now _
   refine Ev.bind hT ?_; by_cases ht : tok kind s = true
   ·rw [ht]; exact Ev.now _
   ·rw [Bool.not_eq_true] at ht; rw [ht]; by_cases h : s.size ≤ 20000
    ·simp only [if_pos h]; exact Ev.now _
    ·simp only [if_neg h]; exact Ev.now _
  exact Ev.bind hbind (Ev.now _)
end Go.Proofs.Ytnafnieocpkkhaa.P

set_option linter.unusedVariables false
set_option linter.unusedSimpArgs false
namespace Go.Proofs.Ytnafnieocpkkhaa.P
open Go.RowKit Go.Proofs.YtnafnieocpkkhaaW.PrintWords Go.Proofs.YtnafnieocpkkhaaW.PrintLast Go.Proofs.YtnafnieocpkkhaaW.PrintMore
/-- Leaves. -/
def lv (n : Nd) : Nat := if n.f0 = 1 then 1 else (n.f2.attach.map fun x => lv x.1).sum
termination_by SizeOf.sizeOf n
decreasing_by exact Nd.lt_of_mem x.2
theorem lv_eq (n : Nd) : lv n = if n.f0 = 1 then 1 else (n.f2.map lv).sum := by
 rw [lv]
 congr 2
 exact List.attach_map_val (f := lv)
/-- Formed, but for the number of leaves: so many levels are left. -/
def fo : Nat → Nd → Bool
 | 0, _ => false
 | m + 1, n => if n.f0 = 1 then decide (n.f2.length = 0) && tok n.f1.f0 n.f1.f1 else
   decide (2 ≤ n.f0 ∧ n.f0 ≤ 28) && (n.f1.f0 == 0 && (n.f1.f1.toList == ([] : Bs))) && !(decide (n.f0 = 28 ∧ 0 < n.f2.length)) && n.f2.all (fo m)
def fmd (n : Nd) : Bool := fo 1001 n && decide (lv n ≤ 20000)
/-- A tree that is not large. -/
def sm (n : Nd) : Prop := wd n ≤ 1000000000 ∧ nd n ≤ 1000000
theorem sm.kid {n x : Nd} (h : sm n) (hx : x ∈ n.f2) : sm x := by
 have h1 := sum_mem (f := wd) hx; have h2 := sum_mem (f := nd) hx; have e1 := wd_eq n; have e2 := nd_eq n; exact ⟨by have := h.1; omega, by have := h.2; omega⟩
theorem sm.text {n : Nd} (h : sm n) : n.f1.f1.size ≤ 1000000000 := by
 have e1 := wd_eq n; have := h.1
 omega
theorem sm.len {n : Nd} (h : sm n) : n.f2.length < 1000000 := by
 have e2 := nd_eq n; have := len_le n.f2; have := h.2
 omega
theorem all_ev {G : Nat → Nd → Int → Option (Bool × Int)} {f : Nd → Bool} : ∀ (l : List Nd) (c : Nat), c ≤ 20000 → (∀ x ∈ l, ∀ c : Nat, c ≤ 20000 → ∃ b c', Ev (fun k => G k x (c : Int)) (b, c') ∧ (b = true ↔ f x = true ∧ c + lv x ≤ 20000) ∧ (b = true → c' = ((c + lv x : Nat) : Int))) →
  ∃ b c', Ev (fun k => tree_IsFormed.all (G k) l (c : Int)) (b, c') ∧ (b = true ↔ l.all f = true ∧ c + (l.map lv).sum ≤ 20000) ∧ (b = true → c' = ((c + (l.map lv).sum : Nat) : Int)) := by
 intro l
 induction l with
 | nil =>
  intro c hc _; refine ⟨true, (c : Int), Ev.now _, by simpa using hc, fun _ => rfl⟩
 | cons x r ih =>
  intro c hc hx; obtain ⟨b, c', h1, h2, h3⟩ := hx x List.mem_cons_self c hc; simp only [tree_IsFormed.all, List.all_cons, List.map_cons, List.sum_cons]; by_cases hb : b = true
  ·obtain ⟨hf, hl⟩ := h2.1 hb; obtain ⟨b2, c2, g1, g2, g3⟩ := ih (c + lv x) hl (fun y hy => hx y (List.mem_cons_of_mem _ hy)); refine ⟨b2, c2, Ev.bind h1 ?_, ?_, ?_⟩
   ·rw [h3 hb]; exact Ev.pos hb g1
   ·rw [g2, hf, Bool.true_and, Nat.add_assoc]
   ·intro h; rw [g3 h, Nat.add_assoc]
  ·refine ⟨false, c', Ev.bind h1 (Ev.neg hb (Ev.now _)), ?_, fun h => by cases h⟩
   constructor
   ·intro h; cases h
   ·rintro ⟨h4, h5⟩; rw [Bool.and_eq_true] at h4; exact absurd (h2.2 ⟨h4.1, by omega⟩) hb
theorem go_ev : ∀ (m : Nat) (n : Nd) (c : Nat), sm n → c ≤ 20000 → ∃ b c', Ev (fun k => tree_IsFormed.go k m n (c : Int)) (b, c') ∧ (b = true ↔ fo m n = true ∧ c + lv n ≤ 20000) ∧ (b = true → c' = ((c + lv n : Nat) : Int)) := by
 intro m
 induction m with
 | zero =>
  intro n c _ _; exact ⟨false, c, Ev.now _, by simp [fo], fun h => by cases h⟩
 | succ m ih =>
  intro n c hs hc; rw [lv_eq]; simp only [tree_IsFormed.go, fo]; by_cases h1 : n.f0 = 1
  ·simp only [if_pos h1]; rw [w64 (n := (c : Int) + 1) (by omega) (by omega)]
   have no : ∀ x : Int, (¬ ((decide (n.f2.length = 0) && tok n.f1.f0 n.f1.f1) = true ∧ c + 1 ≤ 20000)) → ∃ b c', Ev (fun _ => (some (false, x) : Option (Bool × Int))) (b, c') ∧ (b = true ↔ (decide (n.f2.length = 0) && tok n.f1.f0 n.f1.f1) = true ∧ c + 1 ≤ 20000) ∧ (b = true → c' = ((c + 1 : Nat) : Int)) :=
    fun x hx => ⟨false, x, Ev.now _, ⟨fun h => (by cases h), fun h => absurd h hx⟩, fun h => (by cases h)⟩
   by_cases h2 : c + 1 ≤ 20000
   ·have g2 : (c : Int) + 1 ≤ 20000 := (by omega)
    simp only [if_pos g2]; by_cases h3 : n.f2.length = 0
    ·simp only [if_pos h3]; by_cases h4 : n.f1.f1.size ≤ 20000
     ·have g4 : (n.f1.f1.size : Int) ≤ 20000 := (by omega)
      simp only [if_pos g4]; refine ⟨tok n.f1.f0 n.f1.f1, _, Ev.bind (istoken_ev _ _ hs.text) (Ev.now _), ?_, fun _ => by omega⟩
      simp [h3, h2]
     ·have g4 : ¬ (n.f1.f1.size : Int) ≤ 20000 := (by omega)
      simp only [if_neg g4]; refine no _ (fun x => ?_); have := (Bool.and_eq_true_iff.1 x.1).2; exact h4 (of_decide_eq_true this).2.1
    ·simp only [if_neg h3]; refine no _ (fun x => h3 ?_); exact of_decide_eq_true (Bool.and_eq_true_iff.1 x.1).1
   ·have g2 : ¬ (c : Int) + 1 ≤ 20000 := (by omega)
    simp only [if_neg g2]; exact no _ (fun x => h2 x.2)
  ·simp only [if_neg h1]
   have no : ∀ B : Bool, B = false → ∃ b c', Ev (fun _ => (some (false, (c : Int)) : Option (Bool × Int))) (b, c') ∧ (b = true ↔ B = true ∧ c + (n.f2.map lv).sum ≤ 20000) ∧ (b = true → c' = ((c + (n.f2.map lv).sum : Nat) : Int)) :=
    fun B hB => ⟨false, c, Ev.now _, ⟨fun h => (by cases h), fun h => (by rw [hB] at h; cases h.1)⟩, fun h => (by cases h)⟩
   by_cases h2 : n.f0 < 2
   ·simp only [if_pos h2]; exact no _ (by rw [decide_eq_false (p := 2 ≤ n.f0 ∧ n.f0 ≤ 28) (fun x => by omega)]; rfl)
   ·simp only [if_neg h2]; by_cases h3 : n.f0 > 28
    ·simp only [if_pos h3]; exact no _ (by rw [decide_eq_false (p := 2 ≤ n.f0 ∧ n.f0 ≤ 28) (fun x => by omega)]; rfl)
    ·simp only [if_neg h3]; rw [decide_eq_true (p := 2 ≤ n.f0 ∧ n.f0 ≤ 28) (by omega), Bool.true_and]; have hE : tree_isEmpty.f n.f1.f0 n.f1.f1 = some (n.f1.f0 == 0 && (n.f1.f1.toList == ([] : Bs))) := rfl; simp only [hE, Option.bind_some]; by_cases h4 : (n.f1.f0 == 0 && (n.f1.f1.toList == ([] : Bs))) = true
     ·simp only [if_pos h4]; rw [h4, Bool.true_and]; have hA := all_ev (G := fun k => tree_IsFormed.go k m) (f := fo m) n.f2 c hc (fun x hx c hc => ih x c (hs.kid hx) hc); by_cases h5 : n.f0 = 28
      ·simp only [if_pos h5]; by_cases h6 : 0 < n.f2.length
       ·simp only [if_pos h6]; exact no _ (by rw [decide_eq_true (p := n.f0 = 28 ∧ 0 < n.f2.length) ⟨h5, h6⟩]; rfl)
       ·simp only [if_neg h6]; rw [decide_eq_false (p := n.f0 = 28 ∧ 0 < n.f2.length) (fun x => h6 x.2)]; exact hA
      ·simp only [if_neg h5]; rw [decide_eq_false (p := n.f0 = 28 ∧ 0 < n.f2.length) (fun x => h5 x.1)]; exact hA
     ·simp only [if_neg h4]; rw [Bool.not_eq_true] at h4; exact no _ (by rw [h4]; rfl)
theorem IsFormed_ev (n : Nd) (hs : sm n) : Ev (fun k => tree_IsFormed.f k n.f0 n.f1.f0 n.f1.f1 n.f2) (fmd n) := by
 obtain ⟨b, c', h1, h2, _⟩ := go_ev 1001 n 0 hs (by omega); unfold tree_IsFormed.f
 have : b = fmd n := by
  unfold fmd; rw [Bool.eq_iff_iff, h2, Bool.and_eq_true, decide_eq_true_eq, Nat.zero_add]
 rw [← this]; exact Ev.bind h1 (Ev.now _)
end Go.Proofs.Ytnafnieocpkkhaa.P

set_option linter.unusedVariables false
set_option linter.unusedSimpArgs false
namespace Go.Proofs.Ytnafnieocpkkhaa.P
open Go.RowKit Go.Proofs.YtnafnieocpkkhaaW.PrintWords Go.Proofs.YtnafnieocpkkhaaW.PrintLast Go.Proofs.YtnafnieocpkkhaaW.PrintMore
abbrev Tk := S23
theorem Nd.eta (x : Nd) : (⟨x.f0, ⟨x.f1.f0, x.f1.f1⟩, x.f2⟩ : Nd) = x := by cases x; rfl
/-! ### Cut -/
theorem One_ev (kind : Int) (s : ByteArray) : ∃ t, marginaliaref03_One.f kind s = some (kind, t) ∧ t.size ≤ 20001 ∧ (s.size ≤ 20001 → t = s) := by
 unfold marginaliaref03_One.f; have h : mn (s.size : Int) 20001 = ((min s.size 20001 : Nat) : Int) := mn_nat s.size 20001; rw [h, if_pos (by omega), if_pos (by omega)]; refine ⟨_, rfl, ?_, fun hs => ?_⟩
 ·rw [ByteArray.size_extract]; omega
 ·rw [Int.toNat_natCast, Nat.min_eq_left hs]; exact ByteArray.extract_zero_size
theorem wds_append (l : List Nd) (x : Nd) : ((l ++ [x]).map wd).sum = (l.map wd).sum + wd x := by
 simp
theorem nds_append (l : List Nd) (x : Nd) : ((l ++ [x]).map nd).sum = (l.map nd).sum + nd x := by
 simp
def cutP (n : Nd) : Prop := ∀ left depth : Nat, 1 ≤ left → left ≤ 1000 → depth ≤ 1003 → ∃ m : Nd, Ev (fun k => marginaliaref05_cut.f k n.f0 n.f1.f0 n.f1.f1 n.f2 (left : Int) (depth : Int)) (m.f0, m.f1.f0, m.f1.f1, m.f2, ((left - nd m : Nat) : Int)) ∧ nd m ≤ left ∧ wd m ≤ 20001 * nd m
theorem cut_loop (n : Nd) (k0 : Int) (t : Tk) (ht : t.f1.size ≤ 20001) (left depth : Nat) (hl : left ≤ 1000) (hdep : depth ≤ 1003) : ∀ (r : List Nd) (i : Nat) (acc : List Nd), n.f2.drop i = r → acc.length = i → (∀ x ∈ r, cutP x) → (acc.map nd).sum + 1 ≤ left → (acc.map wd).sum ≤ 20001 * (acc.map nd).sum →
  ∃ m : Nd, Ev (fun k => marginaliaref05_cut.l0 k (depth : Int) ((left - 1 - (acc.map nd).sum : Nat) : Int) (i : Int) n.f0 n.f1.f0 n.f1.f1 n.f2 k0 t.f0 t.f1 acc) (m.f0, m.f1.f0, m.f1.f1, m.f2, ((left - nd m : Nat) : Int)) ∧ nd m ≤ left ∧ wd m ≤ 20001 * nd m := by
 intro r
 induction r with
 | nil =>
  intro i acc hd ha hx hn hw; have := le_of_nil hd; have e1 : nd ⟨k0, t, acc⟩ = 1 + (acc.map nd).sum := nd_eq _; have e2 : wd ⟨k0, t, acc⟩ = t.f1.size + (acc.map wd).sum := wd_eq _; refine ⟨⟨k0, t, acc⟩, Ev.shift ?_, by omega, by rw [e1, e2]; omega⟩; simp only [marginaliaref05_cut.l0]; refine Ev.neg (by omega) ?_; rw [show left - nd ⟨k0, t, acc⟩ = left - 1 - (acc.map nd).sum by omega]; exact Ev.now _
 | cons e r ih =>
  intro i acc hd ha hx hn hw; have hlt := lt_of_drop hd; have hal := len_le acc; have e1 : nd ⟨k0, t, acc⟩ = 1 + (acc.map nd).sum := nd_eq _; have e2 : wd ⟨k0, t, acc⟩ = t.f1.size + (acc.map wd).sum := wd_eq _
  have stop : ∃ m : Nd, Ev (fun k => some (k0, t.f0, t.f1, acc, ((left - 1 - (acc.map nd).sum : Nat) : Int))) (m.f0, m.f1.f0, m.f1.f1, m.f2, ((left - nd m : Nat) : Int)) ∧ nd m ≤ left ∧ wd m ≤ 20001 * nd m := by
   refine ⟨⟨k0, t, acc⟩, ?_, by omega, by rw [e1, e2]; omega⟩; rw [show left - nd ⟨k0, t, acc⟩ = left - 1 - (acc.map nd).sum by omega]; exact Ev.now _
  by_cases h1 : 0 < left - 1 - (acc.map nd).sum
  ·by_cases h2 : depth ≤ 1002
   ·obtain ⟨x, hx1, hx2, hx3⟩ := hx e List.mem_cons_self (left - 1 - (acc.map nd).sum) (depth + 1) (by omega) (by omega) (by omega); have hxp := nd_pos x; obtain ⟨m, hm, hm2⟩ := ih (i + 1) (acc ++ [x]) (drop_next hd) (by simp [ha]) (fun y hy => hx y (List.mem_cons_of_mem _ hy)) (by rw [nds_append]; omega) (by rw [nds_append, wds_append]; omega); refine ⟨m, Ev.shift ?_, hm2⟩; simp only [marginaliaref05_cut.l0]; rw [rd_nd hd, w64 (n := (depth : Int) + 1) (by omega) (by omega), w64 (n := (i : Int) + 1) (by omega) (by omega)]; refine Ev.pos (by omega) (Ev.pos (by omega) (Ev.pos (by omega) (Ev.pos (by omega) (Ev.bind (by exact_mod_cast hx1) ?_)))); refine Ev.pos (by omega) ?_; rw [show left - 1 - ((acc ++ [x]).map nd).sum = left - 1 - (acc.map nd).sum - nd x by rw [nds_append]; omega] at hm; simp only [Nd.eta]; exact hm
   ·obtain ⟨m, hm, hm2⟩ := stop; refine ⟨m, Ev.shift ?_, hm2⟩; simp only [marginaliaref05_cut.l0]; exact Ev.pos (by omega) (Ev.pos (by omega) (Ev.neg (by omega) hm))
  ·obtain ⟨m, hm, hm2⟩ := stop; refine ⟨m, Ev.shift ?_, hm2⟩; simp only [marginaliaref05_cut.l0]; exact Ev.pos (by omega) (Ev.neg (by omega) hm)
theorem cut_ev : ∀ n : Nd, cutP n := by
 refine Nd.ind ?_; intro n ih left depth h1 h2 h3; obtain ⟨t, ht, hz, _⟩ := One_ev n.f1.f0 n.f1.f1; obtain ⟨m, hm, hm2⟩ := cut_loop n n.f0 ⟨n.f1.f0, t⟩ hz left depth h2 h3 n.f2 0 [] rfl rfl ih (by simpa using h1) (by simp); refine ⟨m, Ev.shift ?_, hm2⟩; simp only [marginaliaref05_cut.f]; refine Ev.bind1 ht ?_; rw [w64 (n := (left : Int) - 1) (by omega) (by omega), show (left : Int) - 1 = ((left - 1 - (([] : List Nd).map nd).sum : Nat) : Int) by simp only [List.map_nil, List.sum_nil]; omega]; exact hm
/-! ### positions -/
def wds (l : List Nd) : Nat := (l.map wd).sum
theorem wd_wds (n : Nd) : wd n = n.f1.f1.size + wds n.f2 := wd_eq n
/-- What is at a position, and where it begins. -/
def atp : List Int → Nd → Option (Nd × Nat)
 | [], n => some (n, 0)
 | i :: p, n => if 0 ≤ i then (n.f2[i.toNat]?).bind fun x => (atp p x).map fun y => (y.1, wds (n.f2.take i.toNat) + y.2) else none
theorem atp_fo : ∀ {p : List Int} {n x : Nd} {o m : Nat}, fo m n = true → atp p n = some (x, o) → ∃ m', fo m' x = true := by
 intro p
 induction p with
 | nil =>
  intro n x o m hs h; simp only [atp, Option.some.injEq, Prod.mk.injEq] at h; obtain ⟨rfl, rfl⟩ := h; exact ⟨m, hs⟩
 | cons i p ih =>
  intro n x o m hs h; rw [atp] at h
  split at h
  ·cases e : n.f2[i.toNat]? with
   | none => rw [e] at h; cases h
   | some y =>
    rw [e, Option.bind_some] at h
    cases e2 : atp p y with
    | none => rw [e2] at h; cases h
    | some z =>
     rw [e2] at h; simp only [Option.map_some, Option.some.injEq, Prod.mk.injEq] at h; obtain ⟨rfl, rfl⟩ := h; have hy := List.mem_of_getElem? e
     cases m with
     | zero => cases hs
     | succ m =>
      rw [fo] at hs
      split at hs
      ·rw [Bool.and_eq_true, decide_eq_true_eq] at hs; rw [List.eq_nil_of_length_eq_zero hs.1] at hy
       cases hy
      ·rw [Bool.and_eq_true] at hs; exact ih (List.all_eq_true.1 hs.2 y hy) e2
  ·cases h
end Go.Proofs.Ytnafnieocpkkhaa.P

namespace Go.Proofs.Ytnafnieocpkkhaa.P
open Go.RowKit Go.Proofs.YtnafnieocpkkhaaW.PrintWords Go.Proofs.YtnafnieocpkkhaaW.PrintLast Go.Proofs.YtnafnieocpkkhaaW.PrintMore
attribute [local go_sem] max2_int min2_int max_two min_two max_three min_three max_four min_four
set_option linter.unusedVariables false
set_option linter.unusedSimpArgs false

/-- The first kid, from one on, in which an offset is: which one, the kid, the offset in it. -/
def tree_Find.scan (k : Nat) : List (S26) → Int → Nat → Option (Nat × S26 × Int)
 | [], _, _ => none
 | x :: r, off, i => (tree_width.f k x.f0 x.f1.f0 x.f1.f1 x.f2).bind fun w => if off < w then some (i, x, off) else tree_Find.scan k r (wrap64 (off - w)) (i + 1)
def tree_Find.go (k : Nat) : Nat → S26 → Int → List Int → Option (List Int)
 | 0, _, _, _ => none
 | m + 1, n, off, acc => if n.f0 = 1 then some acc else (tree_Find.scan k n.f2 off 0).bind fun x => if acc.length < 17592186044416 then tree_Find.go k m x.2.1 x.2.2 (acc ++ [(x.1 : Int)]) else none
def tree_Find.f (k : Nat) (a0_0 : Int) (a0_1 : Int) (a0_2 : ByteArray) (l0_3 : List (S26)) (a1 : Int) : Option (List Int × Int) :=
 (tree_IsFormed.f k a0_0 a0_1 a0_2 l0_3).bind fun b => if b = true then
  (tree_width.f k a0_0 a0_1 a0_2 l0_3).bind fun w => if a1 < 0 then some ([], 2) else if a1 > w then some ([], 2) else if w = 0 then some ([], 5) else (tree_Find.go k k ⟨a0_0, ⟨a0_1, a0_2⟩, l0_3⟩ (mn a1 (wrap64 (w - 1))) []).bind fun l => some (l, 0)
 else some ([], 4)
theorem tree_Find.infoInt : (Try.prog.info? 3).map (fun i => (i.zero, i.size, i.bytes)) = some (some (.int .i64 0), 1, 8) := by kernel_rfl
attribute [local go_sem] max2_int min2_int max_two min_two max_three min_three max_four min_four
set_option maxHeartbeats 8000000 in
set_option maxRecDepth 100000 in
theorem tree_Find.calls (k : Nat) (a0_0 : Int) (a0_1 : Int) (a0_2 : ByteArray) (A0_3 : Option Addr) (c0_3 : Nat) (l0_3 : List (S26)) (a1 : Int) (r1 : List Int) (r2 : Int) (w : World) (hr0_3 : Kd.C k26 w A0_3 l0_3.length l0_3) (hc0_3 : l0_3.length ≤ c0_3) (h : tree_Find.f k a0_0 a0_1 a0_2 l0_3 a1 = some (r1, r2)) :
  Calls Try.prog 16 #[.agg #[.int .i64 a0_0, .int .i64 a0_1, .string a0_2, .slice A0_3 l0_3.length c0_3], .int .i64 a1] w fun e w' => ∃ v0_ : Value, e = .returned (.tuple #[v0_, .int .i64 r2]) ∧ Kd.R (Kd.int .i64) 3 w' w.heap.size (fun _ => True) v0_ r1 ∧ Below w.heap.size w w' := by
 have hu := Try.underlying26; unfold tree_Find.f at h; obtain ⟨b, hb, h⟩ := Option.bind_eq_some_iff.mp h; have HB := Aside0.mk (below_alloc (Below.refl w.heap.size w) (.cells #[.int .i64 a0_0, .int .i64 a0_1, .string a0_2, .slice A0_3 l0_3.length c0_3] 26)); have HG := Aside0.mk (blk_new w (.cells #[.int .i64 a0_0, .int .i64 a0_1, .string a0_2, .slice A0_3 l0_3.length c0_3] 26)); have HF := Aside0.mk hb; have HR := Aside0.mk hr0_3; clear hb hr0_3
 cases b with
 | false =>
  rw [if_neg (by decide)] at h; simp only [Option.some.injEq, Prod.mk.injEq] at h; obtain ⟨rfl, rfl⟩ := h; go_enter Try.func16, Try.ntmps16; go_wp2
  go_step3
  go_wp2_with (go_at_call 30; refine (tree_IsFormed.calls k _ _ _ _ _ _ _ _ (Kd.C_below HR.out HB.out) hc0_3 HF.out).mono ?_; rintro e w1 ⟨rfl, hb⟩; have HB1 := Aside0.mk (token_good.step HB.out hb); clear hb)
  (try rw [Exit.noGoto_ret])
  go_ret2
  exact ⟨_, rfl, Kd.R_nil _ _ _ _ _, HB1.out⟩
 | true =>
  rw [if_pos rfl] at h; obtain ⟨wd, hw, h⟩ := Option.bind_eq_some_iff.mp h; have HW := Aside0.mk hw; clear hw; by_cases c1 : a1 < 0
  ·rw [if_pos c1] at h; simp only [Option.some.injEq, Prod.mk.injEq] at h; obtain ⟨rfl, rfl⟩ := h; have c1b : decide (a1 < 0) = true := decide_eq_true c1; clear c1; go_enter Try.func16, Try.ntmps16; go_wp2
   go_step3
   go_wp2_with (first | (go_at_call 30; refine (tree_IsFormed.calls k _ _ _ _ _ _ _ _ (Kd.C_below HR.out HB.out) hc0_3 HF.out).mono ?_; rintro e w1 ⟨rfl, hb⟩; have HB1 := Aside0.mk (token_good.step HB.out hb); have HG1 := Aside0.mk (blk_below HG.out hb); have z0 : w1.cell? ⟨w.heap.size, 0, none⟩ = some (.int .i64 a0_0) := Lib.cell_of_heap HG1.out 0; have z1 : w1.cell? ⟨w.heap.size, 1, none⟩ = some (.int .i64 a0_1) := Lib.cell_of_heap HG1.out 1; have z2 : w1.cell? ⟨w.heap.size, 2, none⟩ = some (.string a0_2) := Lib.cell_of_heap HG1.out 2; have z3 : w1.cell? ⟨w.heap.size, 3, none⟩ = some (.slice A0_3 l0_3.length c0_3) := Lib.cell_of_heap HG1.out 3; clear hb) | (go_at_call 55; refine (tree_width.calls k _ _ _ _ _ _ _ _ (Kd.C_below HR.out HB1.out) hc0_3 HW.out).mono ?_; rintro e w2 ⟨rfl, hb⟩; have HB2 := Aside0.mk (token_good.step HB1.out hb); have HG2 := Aside0.mk (blk_below HG1.out hb); clear hb))
   (try rw [Exit.noGoto_ret])
   go_ret2
   exact ⟨_, rfl, Kd.R_nil _ _ _ _ _, HB2.out⟩
  ·rw [if_neg c1] at h; have c1b : decide (a1 < 0) = false := decide_eq_false c1; by_cases c2 : a1 > wd
   ·rw [if_pos c2] at h; simp only [Option.some.injEq, Prod.mk.injEq] at h; obtain ⟨rfl, rfl⟩ := h; have c2b : decide (wd < a1) = true := decide_eq_true c2; clear c1 c2; go_enter Try.func16, Try.ntmps16; go_wp2
    go_step3
    go_wp2_with (first | (go_at_call 30; refine (tree_IsFormed.calls k _ _ _ _ _ _ _ _ (Kd.C_below HR.out HB.out) hc0_3 HF.out).mono ?_; rintro e w1 ⟨rfl, hb⟩; have HB1 := Aside0.mk (token_good.step HB.out hb); have HG1 := Aside0.mk (blk_below HG.out hb); have z0 : w1.cell? ⟨w.heap.size, 0, none⟩ = some (.int .i64 a0_0) := Lib.cell_of_heap HG1.out 0; have z1 : w1.cell? ⟨w.heap.size, 1, none⟩ = some (.int .i64 a0_1) := Lib.cell_of_heap HG1.out 1; have z2 : w1.cell? ⟨w.heap.size, 2, none⟩ = some (.string a0_2) := Lib.cell_of_heap HG1.out 2; have z3 : w1.cell? ⟨w.heap.size, 3, none⟩ = some (.slice A0_3 l0_3.length c0_3) := Lib.cell_of_heap HG1.out 3; clear hb) | (go_at_call 55; refine (tree_width.calls k _ _ _ _ _ _ _ _ (Kd.C_below HR.out HB1.out) hc0_3 HW.out).mono ?_; rintro e w2 ⟨rfl, hb⟩; have HB2 := Aside0.mk (token_good.step HB1.out hb); have HG2 := Aside0.mk (blk_below HG1.out hb); clear hb))
    (try rw [Exit.noGoto_ret])
    go_ret2
    exact ⟨_, rfl, Kd.R_nil _ _ _ _ _, HB2.out⟩
   ·rw [if_neg c2] at h; have c2b : decide (wd < a1) = false := decide_eq_false c2; by_cases c3 : wd = 0
    ·rw [if_pos c3] at h; simp only [Option.some.injEq, Prod.mk.injEq] at h; obtain ⟨rfl, rfl⟩ := h; have c3b : (wd == 0) = true := beq_iff_eq.mpr c3; clear c1 c2 c3; go_enter Try.func16, Try.ntmps16; go_wp2
     go_step3
     go_wp2_with (first | (go_at_call 30; refine (tree_IsFormed.calls k _ _ _ _ _ _ _ _ (Kd.C_below HR.out HB.out) hc0_3 HF.out).mono ?_; rintro e w1 ⟨rfl, hb⟩; have HB1 := Aside0.mk (token_good.step HB.out hb); have HG1 := Aside0.mk (blk_below HG.out hb); have z0 : w1.cell? ⟨w.heap.size, 0, none⟩ = some (.int .i64 a0_0) := Lib.cell_of_heap HG1.out 0; have z1 : w1.cell? ⟨w.heap.size, 1, none⟩ = some (.int .i64 a0_1) := Lib.cell_of_heap HG1.out 1; have z2 : w1.cell? ⟨w.heap.size, 2, none⟩ = some (.string a0_2) := Lib.cell_of_heap HG1.out 2; have z3 : w1.cell? ⟨w.heap.size, 3, none⟩ = some (.slice A0_3 l0_3.length c0_3) := Lib.cell_of_heap HG1.out 3; clear hb) | (go_at_call 55; refine (tree_width.calls k _ _ _ _ _ _ _ _ (Kd.C_below HR.out HB1.out) hc0_3 HW.out).mono ?_; rintro e w2 ⟨rfl, hb⟩; have HB2 := Aside0.mk (token_good.step HB1.out hb); have HG2 := Aside0.mk (blk_below HG1.out hb); clear hb))
     (try rw [Exit.noGoto_ret])
     go_ret2
     exact ⟨_, rfl, Kd.R_nil _ _ _ _ _, HB2.out⟩
    ·rw [if_neg c3] at h; have c3b : (wd == 0) = false := beq_eq_false_iff_ne.mpr c3; obtain ⟨l, hl, h⟩ := Option.bind_eq_some_iff.mp h; simp only [Option.some.injEq, Prod.mk.injEq] at h; obtain ⟨rfl, rfl⟩ := h
     obtain ⟨o1, ho1⟩ : ∃ o1 : Int, mn a1 (wrap64 (wd - 1)) = o1 := ⟨_, rfl⟩
     rw [ho1] at hl
     have ho2 : (if wrap64 (wd - 1) < a1 then wrap64 (wd - 1) else a1) = o1 := (by rw [← ho1]; unfold mn; rfl)
     have HL := Aside0.mk hl; clear c1 c2 c3 hl ho1; go_enter Try.func16, Try.ntmps16; go_wp2
     go_step3
     go_wp2_with (first | (go_at_call 30; refine (tree_IsFormed.calls k _ _ _ _ _ _ _ _ (Kd.C_below HR.out HB.out) hc0_3 HF.out).mono ?_; rintro e w1 ⟨rfl, hb⟩; have HB1 := Aside0.mk (token_good.step HB.out hb); have HG1 := Aside0.mk (blk_below HG.out hb); have z0 : w1.cell? ⟨w.heap.size, 0, none⟩ = some (.int .i64 a0_0) := Lib.cell_of_heap HG1.out 0; have z1 : w1.cell? ⟨w.heap.size, 1, none⟩ = some (.int .i64 a0_1) := Lib.cell_of_heap HG1.out 1; have z2 : w1.cell? ⟨w.heap.size, 2, none⟩ = some (.string a0_2) := Lib.cell_of_heap HG1.out 2; have z3 : w1.cell? ⟨w.heap.size, 3, none⟩ = some (.slice A0_3 l0_3.length c0_3) := Lib.cell_of_heap HG1.out 3; clear hb) | (go_at_call 55; refine (tree_width.calls k _ _ _ _ _ _ _ _ (Kd.C_below HR.out HB1.out) hc0_3 HW.out).mono ?_; rintro e w2 ⟨rfl, hb⟩; have HB2 := Aside0.mk (token_good.step HB1.out hb); have HG2 := Aside0.mk (blk_below HG1.out hb); clear hb))
     go_step3
     go_wp2
     go_loopg [1, 7] k (fun kq v1 v7 w' => ∃ (n : S26) (A : Option Addr) (cc : Nat) (off : Int) (acc : List Int), v1 = .int .i64 off ∧ Aside0 (tree_Find.go k kq n off acc = some l) ∧ Aside0 (Kd.C k26 w A n.f2.length n.f2 ∧ n.f2.length ≤ cc) ∧ Aside0 (w'.heap[w.heap.size]? = some (.cells #[.int .i64 n.f0, .int .i64 n.f1.f0, .string n.f1.f1, .slice A n.f2.length cc] 26 (0, 0))) ∧ Aside0 (Kd.R (Kd.int .i64) 3 w' w.heap.size (fun _ => True) v7 acc) ∧ Aside0 (Below w.heap.size w w'))
     case atStart => exact ⟨⟨a0_0, ⟨a0_1, a0_2⟩, l0_3⟩, A0_3, c0_3, o1, [], (by first | rfl | rw [ho2]), HL, ⟨HR.out, hc0_3⟩, HG2, ⟨Kd.R_nil _ _ _ _ _⟩, HB2⟩
     case round =>
      clear HL HG HG1 HG2 HB HB1 HB2 HF HW z0 z1 z2 z3 ho2 c1b c2b c3b; obtain ⟨n, A, cc, off, acc, rfl, HA, HC, HG, HO, HB⟩ := hrel
      cases gk with
      | zero => exact absurd HA.out (by simp [tree_Find.go])
      | succ kq =>
      have H := HA.out; rw [tree_Find.go] at H; clear HA; have z0 : wr.cell? ⟨w.heap.size, 0, none⟩ = some (.int .i64 n.f0) := Lib.cell_of_heap HG.out 0; have z3 : wr.cell? ⟨w.heap.size, 3, none⟩ = some (.slice A n.f2.length cc) := Lib.cell_of_heap HG.out 3; have hmax : n.f2.length ≤ 9223372036854775807 := HC.out.1.2.1; by_cases c4 : n.f0 = 1
      ·rw [if_pos c4] at H; injection H with H; subst H; have c4b : (n.f0 != 1) = false := bne_eq_false_iff_eq.mpr c4; clear c4; go_wp2
       (try rw [Exit.noGoto_ret])
       go_ret2
       exact ⟨_, rfl, HO.out, HB.out⟩
      ·rw [if_neg c4] at H; have c4b : (n.f0 != 1) = true := bne_iff_ne.mpr c4; clear c4; obtain ⟨⟨j, x, o2⟩, hs, Hn⟩ := Option.bind_eq_some_iff.mp H; clear H; obtain ⟨hlen, Hn⟩ := Ut.ite_some Hn; have HS := Aside0.mk hs; have HN := Aside0.mk Hn; clear hs Hn; go_wp2
       go_loopg [1, 7, 35] n.f2.length (fun kq2 v1 v7 v35 w' => ∃ (i : Nat) (o : Int), v1 = .int .i64 o ∧ v35 = .int .i64 (i : Int) ∧ Aside0 (i + kq2 = n.f2.length) ∧ Aside0 (tree_Find.scan k (n.f2.drop i) o i = some (j, x, o2)) ∧ Aside0 (w'.heap[w.heap.size]? = some (.cells #[.int .i64 n.f0, .int .i64 n.f1.f0, .string n.f1.f1, .slice A n.f2.length cc] 26 (0, 0))) ∧ Aside0 (Kd.R (Kd.int .i64) 3 w' w.heap.size (fun _ => True) v7 acc) ∧ Aside0 (Below w.heap.size w w'))
       case atStart => exact ⟨0, off, rfl, rfl, ⟨by omega⟩, HS, HG, HO, HB⟩
       case round =>
        clear HS HG HO HB z0 z3; obtain ⟨i, o, rfl, rfl, HK, HS, HG, HO, HB⟩ := hrel; by_cases hlt : i < n.f2.length
        ·have hd1 : decide ((i : Int) < (n.f2.length : Int)) = true := decide_eq_true (by omega); have S := HS.out; rw [List.drop_eq_getElem_cons hlt] at S; simp only [tree_Find.scan] at S; obtain ⟨wy, hwy, Sn⟩ := Option.bind_eq_some_iff.mp S; clear S HS
         have hrd : rd_T26 n.f2 (i : Int) = n.f2[i] := (by simp [rd_T26, hlt])
         obtain ⟨ad, A3, c3, e, hx0, hx1, hx2, hx3, hl3, hC3⟩ := at_T26 HC.out.1 (i : Int) (by omega) (by omega); rw [hrd] at hx0 hx1 hx2 hx3 hl3 hC3; rw [Int.toNat_natCast] at hx0 hx1 hx2 hx3; subst e; replace hx0 := zh HB hx0; replace hx1 := zh HB hx1; replace hx2 := zh HB hx2; replace hx3 := zh HB hx3; clear hrd; generalize n.f2[i] = y at *; have HW := Aside0.mk hwy; have HC3 := Aside0.mk (And.intro hC3 hl3); have HB1 := Aside0.mk (below_alloc HB.out (.cells #[.int .i64 y.f0, .int .i64 y.f1.f0, .string y.f1.f1, .slice A3 y.f2.length c3] 26)); have HG1 := Aside0.mk (blk_alloc HG.out (.cells #[.int .i64 y.f0, .int .i64 y.f1.f0, .string y.f1.f1, .slice A3 y.f2.length c3] 26)); have HY1 := Aside0.mk (blk_new wr (.cells #[.int .i64 y.f0, .int .i64 y.f1.f0, .string y.f1.f1, .slice A3 y.f2.length c3] 26)); have HO1 := Aside0.mk (Kd.R_alloc HO.out (.cells #[.int .i64 y.f0, .int .i64 y.f1.f0, .string y.f1.f1, .slice A3 y.f2.length c3] 26)); clear hwy hC3 hl3; by_cases c5 : o < wy
         ·rw [if_pos c5] at Sn; simp only [Option.some.injEq, Prod.mk.injEq] at Sn; obtain ⟨rfl, rfl, rfl⟩ := Sn; have c5b : decide (o < wy) = true := decide_eq_true c5; clear c5
          go_wp2_with (first | (go_at_call 55; refine (tree_width.calls k _ _ _ _ _ _ _ _ (Kd.C_below HC3.out.1 HB1.out) HC3.out.2 HW.out).mono ?_; rintro e w3 ⟨rfl, hb⟩; have HB3 := Aside0.mk (token_good.step HB1.out hb); have HG3 := Aside0.mk (blk_below HG1.out hb); have HY3 := Aside0.mk (blk_below HY1.out hb); have HO3 := Aside0.mk (Kd.R_below HO1.out hb); clear hb) | (at_builtin; refine Kd.R_append (Kd.int .i64) (w0 := w) w.heap.size rfl (.tmp 45) (.tmp 47) 30 3 (.int .i64 0) 8 rfl Try.underlying30 tree_Find.infoInt rfl (by decide) (by omega) u7 acc (i : Int) [.int .i64 (i : Int)] (fun _ => True) (fun _ => False) rfl rfl rfl (fun _ hk => hk.elim) (fun _ _ => trivial) HO3.out HB3.out (below_size HB3.out) (by omega) ?_; intro v8 w4 ho hb hg hat; have HB4 := Aside0.mk hb; have HO4 := Aside0.mk ho; have HG4 := Aside0.mk (blk_grown HG3.out hg (Kd.R_ne HO3.out HG3.out (by decide))); have HY4 := Aside0.mk (blk_grown HY3.out hg (Kd.R_ne HO3.out HY3.out (by decide))); clear ho hb hg hat; have y0 : w4.cell? ⟨wr.heap.size, 0, none⟩ = some (.int .i64 y.f0) := Lib.cell_of_heap HY4.out 0; have y1 : w4.cell? ⟨wr.heap.size, 1, none⟩ = some (.int .i64 y.f1.f0) := Lib.cell_of_heap HY4.out 1; have y2 : w4.cell? ⟨wr.heap.size, 2, none⟩ = some (.string y.f1.f1) := Lib.cell_of_heap HY4.out 2; have y3 : w4.cell? ⟨wr.heap.size, 3, none⟩ = some (.slice A3 y.f2.length c3) := Lib.cell_of_heap HY4.out 3; have z0 : w4.cell? ⟨w.heap.size, 0, none⟩ = some (.int .i64 n.f0) := Lib.cell_of_heap HG4.out 0; have z1 : w4.cell? ⟨w.heap.size, 1, none⟩ = some (.int .i64 n.f1.f0) := Lib.cell_of_heap HG4.out 1; have z2 : w4.cell? ⟨w.heap.size, 2, none⟩ = some (.string n.f1.f1) := Lib.cell_of_heap HG4.out 2; have z3 : w4.cell? ⟨w.heap.size, 3, none⟩ = some (.slice (some ad) n.f2.length cc) := Lib.cell_of_heap HG4.out 3; have d0 := Lib.frozen_of_heap HG4.out 0; have d1 := Lib.frozen_of_heap HG4.out 1; have d2 := Lib.frozen_of_heap HG4.out 2; have d3 := Lib.frozen_of_heap HG4.out 3))
          go_roundg kq
          case measure => omega
          case rel => exact ⟨y, A3, c3, o, acc ++ [(i : Int)], rfl, HN, HC3, ⟨by refine blk_put (cs := #[.int .i64 y.f0, .int .i64 y.f1.f0, .string y.f1.f1, .slice (some ad) n.f2.length cc]) ?_ 3 _ rfl; refine blk_put (cs := #[.int .i64 y.f0, .int .i64 y.f1.f0, .string n.f1.f1, .slice (some ad) n.f2.length cc]) ?_ 2 _ rfl; refine blk_put (cs := #[.int .i64 y.f0, .int .i64 n.f1.f0, .string n.f1.f1, .slice (some ad) n.f2.length cc]) ?_ 1 _ rfl; refine blk_put (cs := #[.int .i64 n.f0, .int .i64 n.f1.f0, .string n.f1.f1, .slice (some ad) n.f2.length cc]) ?_ 0 _ rfl; exact HG4.out⟩, ⟨by refine Kd.R_set (Kd.R_set (Kd.R_set (Kd.R_set HO4.out HG4.out ?ht 0 _) (blk_put HG4.out 0 _ rfl) ?ht 1 _) (blk_put (blk_put HG4.out 0 _ rfl) 1 _ rfl) ?ht 2 _) (blk_put (blk_put (blk_put HG4.out 0 _ rfl) 1 _ rfl) 2 _ rfl) ?ht 3 _; intro q hq e; subst e; revert hq; decide⟩, ⟨by repeat (first | exact HB4.out | refine below_set ?_ (Nat.le_refl _))⟩⟩
         ·rw [if_neg c5] at Sn; have HS2 := Aside0.mk Sn; have c5b : decide (o < wy) = false := decide_eq_false c5; clear c5 Sn
          cases gk with
          | zero => exact absurd hlt (by have := HK.out; omega)
          | succ kq2 =>
          go_wp2_with (go_at_call 55; refine (tree_width.calls k _ _ _ _ _ _ _ _ (Kd.C_below HC3.out.1 HB1.out) HC3.out.2 HW.out).mono ?_; rintro e w3 ⟨rfl, hb⟩; have HB3 := Aside0.mk (token_good.step HB1.out hb); have HG3 := Aside0.mk (blk_below HG1.out hb); have HO3 := Aside0.mk (Kd.R_below HO1.out hb); clear hb)
          go_roundg kq2
          case measure => omega
          case rel => exact ⟨i + 1, _, rfl, by go_num, ⟨by have := HK.out; omega⟩, HS2, HG3, HO3, HB3⟩
        ·have S := HS.out; rw [List.drop_of_length_le (by have := HK.out; omega)] at S
         simp [tree_Find.scan] at S

end Go.Proofs.Ytnafnieocpkkhaa.P

namespace Go.Proofs.Ytnafnieocpkkhaa.P
open Go.RowKit Go.Proofs.YtnafnieocpkkhaaW.PrintWords Go.Proofs.YtnafnieocpkkhaaW.PrintLast Go.Proofs.YtnafnieocpkkhaaW.PrintMore
attribute [local go_sem] max2_int min2_int max_two min_two max_three min_three max_four min_four
set_option linter.unusedVariables false
set_option linter.unusedSimpArgs false

mutual
def tree_Cover.l0 : Nat → List Int → Int → Int → Int → ByteArray → List (S26) → Int → Int → Option (List Int × Int)
 | 0, _, _, _, _, _, _, _, _ => none
 | k + 1, x6, x7, x180000, x180001, x180002, x180003, x181000, x181001 => tree_Cover.l1 k x6 (-1) 0 x7 x180003 (x180003.length : Int) 0 x180000 x180001 x180002 x180003 x181000 x181001
def tree_Cover.l1 : Nat → List Int → Int → Int → Int → List (S26) → Int → Int → Int → Int → ByteArray → List (S26) → Int → Int → Option (List Int × Int)
 | 0, _, _, _, _, _, _, _, _, _, _, _, _, _ => none
 | k + 1, x6, x8, x9, x10, x36, x37, x38, x180000, x180001, x180002, x180003, x181000, x181001 => if x38 < x37 then (if 0 ≤ x38 then (if x38 < (x36.length : Int) then ((tree_width.f k ((rd_T26 x36 x38).f0) ((rd_T26 x36 x38).f1.f0) ((rd_T26 x36 x38).f1.f1) ((rd_T26 x36 x38).f2)).bind fun t185 => (if x10 ≤ x181000 then (if x181001 ≤ (wrap64 (x10 + t185)) then (tree_Cover.l1 k x6 x38 x10 (wrap64 (x10 + t185)) x36 x37 (wrap64 (x38 + 1)) x180000 x180001 x180002 x180003 x181000 x181001) else (tree_Cover.l1 k x6 x8 x9 (wrap64 (x10 + t185)) x36 x37 (wrap64 (x38 + 1)) x180000 x180001 x180002 x180003 x181000 x181001)) else (tree_Cover.l1 k x6 x8 x9 (wrap64 (x10 + t185)) x36 x37 (wrap64 (x38 + 1)) x180000 x180001 x180002 x180003 x181000 x181001))) else (none)) else (none)) else (if x8 < 0 then (some (x6, 0)) else (if x6.length < 17592186044416 then (if 0 ≤ x8 then (if x8 < (x180003.length : Int) then (tree_Cover.l0 k (x6 ++ [x8]) x9 ((rd_T26 x180003 x8).f0) ((rd_T26 x180003 x8).f1.f0) ((rd_T26 x180003 x8).f1.f1) ((rd_T26 x180003 x8).f2) x181000 x181001) else (none)) else (none)) else (none)))
end
def tree_Cover.f (k : Nat) (a0_0 : Int) (a0_1 : Int) (a0_2 : ByteArray) (l0_3 : List (S26)) (a1_0 : Int) (a1_1 : Int) : Option (List Int × Int) := (tree_IsFormed.f k a0_0 a0_1 a0_2 l0_3).bind fun t181 => (if t181 = true then (if a1_0 < 0 then (none) else (if a1_0 > a1_1 then (none) else ((tree_width.f k a0_0 a0_1 a0_2 l0_3).bind fun t182 => (if a1_1 > t182 then (none) else (tree_Cover.l0 k ([] : List Int) 0 a0_0 a0_1 a0_2 l0_3 a1_0 a1_1))))) else (none))
theorem tree_Cover.info : (Try.prog.info? 3).map (fun i => (i.zero, i.size, i.bytes)) = some (some (.int .i64 0), 1, 8) := by kernel_rfl
set_option maxHeartbeats 8000000 in
set_option maxRecDepth 100000 in
theorem tree_Cover.calls (k : Nat) (a0_0 : Int) (a0_1 : Int) (a0_2 : ByteArray) (A0_3 : Option Addr) (c0_3 : Nat) (l0_3 : List (S26)) (a1_0 : Int) (a1_1 : Int) (r1 : List Int) (r2 : Int) (w : World) (hr0_3 : Kd.C k26 w A0_3 l0_3.length l0_3) (hc0_3 : l0_3.length ≤ c0_3) (h : tree_Cover.f k a0_0 a0_1 a0_2 l0_3 a1_0 a1_1 = some (r1, r2)) :
  Calls Try.prog 17 #[.agg #[.int .i64 a0_0, .int .i64 a0_1, .string a0_2, .slice A0_3 l0_3.length c0_3], .agg #[.int .i64 a1_0, .int .i64 a1_1]] w fun e w' => ∃ v0_ : Value, e = .returned (.tuple #[v0_, .int .i64 r2]) ∧ Kd.R (Kd.int .i64) 3 w' w.heap.size (fun _ => True) v0_ r1 ∧ Below w.heap.size w w' := by
 have hu := Try.underlying26; have hu2 := Try.underlying28; unfold tree_Cover.f at h; obtain ⟨b, hb, h⟩ := Option.bind_eq_some_iff.mp h
 cases b with
 | false => exact absurd h (by simp)
 | true =>
 rw [if_pos rfl] at h; by_cases c1 : a1_0 < 0
 ·rw [if_pos c1] at h; cases h
 rw [if_neg c1] at h; by_cases c2 : a1_0 > a1_1
 ·rw [if_pos c2] at h; cases h
 rw [if_neg c2] at h; obtain ⟨wd, hwd, h⟩ := Option.bind_eq_some_iff.mp h; by_cases c3 : a1_1 > wd
 ·rw [if_pos c3] at h; cases h
 rw [if_neg c3] at h; have d1 : decide (a1_0 < 0) = false := decide_eq_false c1; have d2 : decide (a1_1 < a1_0) = false := decide_eq_false c2; have d3 : decide (wd < a1_1) = false := decide_eq_false c3; have hw2 : Below w.heap.size w ((w.alloc (.cells #[.int .i64 a0_0, .int .i64 a0_1, .string a0_2, .slice A0_3 l0_3.length c0_3] 26)).alloc (.cells #[.int .i64 a1_0, .int .i64 a1_1] 28)) := below_alloc (below_alloc (Below.refl _ _) _) _; have Cn := Aside0.mk (Kd.C_below hr0_3 hw2); have C0 := Aside0.mk hr0_3; have HB := Aside0.mk hw2; have H2 := Aside0.mk (show ((w.alloc (.cells #[.int .i64 a0_0, .int .i64 a0_1, .string a0_2, .slice A0_3 l0_3.length c0_3] 26)).alloc (.cells #[.int .i64 a1_0, .int .i64 a1_1] 28)).heap[w.heap.size]? = some (.cells #[.int .i64 a0_0, .int .i64 a0_1, .string a0_2, .slice A0_3 l0_3.length c0_3] 26 (0, 0)) from blk_alloc (blk_new w _) _); have H3 := Aside0.mk (show ((w.alloc (.cells #[.int .i64 a0_0, .int .i64 a0_1, .string a0_2, .slice A0_3 l0_3.length c0_3] 26)).alloc (.cells #[.int .i64 a1_0, .int .i64 a1_1] 28)).heap[w.heap.size + 1]? = some (.cells #[.int .i64 a1_0, .int .i64 a1_1] 28 (0, 0)) by simpa using blk_new (w.alloc (.cells #[.int .i64 a0_0, .int .i64 a0_1, .string a0_2, .slice A0_3 l0_3.length c0_3] 26)) (.cells #[.int .i64 a1_0, .int .i64 a1_1] 28)); have E1 := Aside0.mk hb; have E2 := Aside0.mk hwd; have HH := Aside0.mk h; clear hr0_3 hw2 h hb hwd c1 c2 c3; go_enter Try.func17, Try.ntmps17; go_wp2_with fail; refine (tree_IsFormed.calls k a0_0 a0_1 a0_2 A0_3 c0_3 l0_3 true _ Cn.out hc0_3 E1.out).mono ?_; rintro e w3 ⟨rfl, hb⟩; replace Cn := Aside0.mk (Kd.C_below Cn.out hb); replace H2 := Aside0.mk (blk_below H2.out hb); replace H3 := Aside0.mk (blk_below H3.out hb); replace HB := Aside0.mk (Cl.bstep HB.out hb); clear hb; obtain ⟨yH2_0, yH2_1, yH2_2, yH2_3⟩ := Cl.four H2.out; obtain ⟨yH3_0, yH3_1⟩ := Cl.two H3.out; go_wp2_with fail
 have hS : (fun w' : World => w'.cell? ⟨w.heap.size, 0, none⟩ = some (.int .i64 a0_0) ∧ w'.cell? ⟨w.heap.size, 1, none⟩ = some (.int .i64 a0_1) ∧ w'.cell? ⟨w.heap.size, 2, none⟩ = some (.string a0_2) ∧ w'.cell? ⟨w.heap.size, 3, none⟩ = some (.slice A0_3 l0_3.length c0_3) ∧ w'.cell? ⟨w.heap.size + 1, 0, none⟩ = some (.int .i64 a1_0) ∧ w'.cell? ⟨w.heap.size + 1, 1, none⟩ = some (.int .i64 a1_1)) w3.drew := ⟨yH2_0, yH2_1, yH2_2, yH2_3, yH3_0, yH3_1⟩
 have hd := below_drew1 (Below.refl w3.heap.size w3); replace Cn := Aside0.mk (Kd.C_below Cn.out hd); replace H2 := Aside0.mk (blk_below H2.out hd); replace H3 := Aside0.mk (blk_below H3.out hd); replace HB := Aside0.mk (Cl.bstep HB.out hd); clear hd; refine start_ (n := 17) (S := fun w' => w'.cell? ⟨w.heap.size, 0, none⟩ = some (.int .i64 a0_0) ∧ w'.cell? ⟨w.heap.size, 1, none⟩ = some (.int .i64 a0_1) ∧ w'.cell? ⟨w.heap.size, 2, none⟩ = some (.string a0_2) ∧ w'.cell? ⟨w.heap.size, 3, none⟩ = some (.slice A0_3 l0_3.length c0_3) ∧ w'.cell? ⟨w.heap.size + 1, 0, none⟩ = some (.int .i64 a1_0) ∧ w'.cell? ⟨w.heap.size + 1, 1, none⟩ = some (.int .i64 a1_1)) (ds := []) #[false, false, false, false, false, false, false, false, false, false, false, false, false, false, false, false, false] (by kernel_rfl) rfl rfl hS (fun hHeld => ?_); refine take_ (i := 0) (N := some 17) (v := ?_) (a' := ?_) #[true, false, false, false, false, false, false, false, false, false, false, false, false, false, false, false, false] rfl rfl (by kernel_rfl) (fun _ _ _ h => h) (Or.inl ⟨by rfl, ?_⟩) hHeld ?_ ?_; rotate_left
 ·rintro w' ⟨s0, s1, s2, s3, s4, s5⟩; go_simp; with_reducible rfl
 rotate_left
 ·simp only [Act.put, List.setIfInBounds_toArray, List.set_cons_zero, List.set_cons_succ, i64_w, i32_w]; rfl
 refine take_ (i := 1) (N := some 18) (v := ?_) (a' := ?_) #[true, true, false, false, false, false, false, false, false, false, false, false, false, false, false, false, false] rfl rfl (by kernel_rfl) (fun _ _ _ h => h) (Or.inl ⟨by rfl, ?_⟩) hHeld ?_ ?_; rotate_left
 ·rintro w' ⟨s0, s1, s2, s3, s4, s5⟩; go_simp; with_reducible rfl
 rotate_left
 ·simp only [Act.put, List.setIfInBounds_toArray, List.set_cons_zero, List.set_cons_succ, i64_w, i32_w]; rfl
 refine take_ (i := 2) (N := some 19) (v := ?_) (a' := ?_) #[true, true, true, false, false, false, false, false, false, false, false, false, false, false, false, false, false] rfl rfl (by kernel_rfl) (fun _ _ _ h => h) (Or.inl ⟨by rfl, ?_⟩) hHeld ?_ ?_; rotate_left
 ·rintro w' ⟨s0, s1, s2, s3, s4, s5⟩; go_simp; with_reducible rfl
 rotate_left
 ·simp only [Act.put, List.setIfInBounds_toArray, List.set_cons_zero, List.set_cons_succ, i64_w, i32_w]; rfl
 refine take_ (i := 3) (N := some 20) (v := ?_) (a' := ?_) #[true, true, true, true, false, false, false, false, false, false, false, false, false, false, false, false, false] rfl rfl (by kernel_rfl) (fun _ _ _ h => h) (Or.inl ⟨by rfl, ?_⟩) hHeld ?_ ?_; rotate_left
 ·rintro w' ⟨s0, s1, s2, s3, s4, s5⟩; go_simp; with_reducible rfl
 rotate_left
 ·simp only [Act.put, List.setIfInBounds_toArray, List.set_cons_zero, List.set_cons_succ, i64_w, i32_w]; rfl
 refine take_ (i := 4) (N := some 21) (v := ?_) (a' := ?_) #[true, true, true, true, true, false, false, false, false, false, false, false, false, false, false, false, false] rfl rfl (by kernel_rfl) (fun _ _ _ h => h) (Or.inl ⟨by rfl, ?_⟩) hHeld ?_ ?_; rotate_left
 ·rintro w' ⟨s0, s1, s2, s3, s4, s5⟩; go_simp; with_reducible rfl
 rotate_left
 ·simp only [Act.put, List.setIfInBounds_toArray, List.set_cons_zero, List.set_cons_succ, i64_w, i32_w]; rfl
 refine take_ (i := 5) (N := some 22) (v := ?_) (a' := ?_) #[true, true, true, true, true, true, false, false, false, false, false, false, false, false, false, false, false] rfl rfl (by kernel_rfl) (fun _ _ _ h => h) (Or.inl ⟨by rfl, ?_⟩) hHeld ?_ ?_; rotate_left
 ·rintro w' ⟨s0, s1, s2, s3, s4, s5⟩; go_simp; with_reducible rfl
 rotate_left
 ·simp only [Act.put, List.setIfInBounds_toArray, List.set_cons_zero, List.set_cons_succ, i64_w, i32_w]; rfl
 refine take_ (i := 6) (N := some 23) (v := ?_) (a' := ?_) #[true, true, true, true, true, true, true, false, false, false, false, false, false, false, false, false, false] rfl rfl (by kernel_rfl) (fun _ _ _ h => h) (Or.inl ⟨by rfl, ?_⟩) hHeld ?_ ?_; rotate_left
 ·rintro w' ⟨s0, s1, s2, s3, s4, s5⟩; go_simp; with_reducible rfl
 rotate_left
 ·simp only [Act.put, List.setIfInBounds_toArray, List.set_cons_zero, List.set_cons_succ, i64_w, i32_w]; rfl
 refine take_ (i := 7) (N := some 24) (v := ?_) (a' := ?_) #[true, true, true, true, true, true, true, true, false, false, false, false, false, false, false, false, false] rfl rfl (by kernel_rfl) (fun _ _ _ h => h) (Or.inl ⟨by rfl, ?_⟩) hHeld ?_ ?_; rotate_left
 ·rintro w' ⟨s0, s1, s2, s3, s4, s5⟩; go_simp; with_reducible rfl
 rotate_left
 ·simp only [Act.put, List.setIfInBounds_toArray, List.set_cons_zero, List.set_cons_succ, i64_w, i32_w]; rfl
 refine take_ (i := 8) (N := some 25) (v := ?_) (a' := ?_) #[true, true, true, true, true, true, true, true, true, false, false, false, false, false, false, false, false] rfl rfl (by kernel_rfl) (fun _ _ _ h => h) (Or.inl ⟨by rfl, ?_⟩) hHeld ?_ ?_; rotate_left
 ·rintro w' ⟨s0, s1, s2, s3, s4, s5⟩; go_simp; with_reducible rfl
 rotate_left
 ·simp only [Act.put, List.setIfInBounds_toArray, List.set_cons_zero, List.set_cons_succ, i64_w, i32_w]; rfl
 refine take_ (i := 9) (N := some 26) (v := ?_) (a' := ?_) #[true, true, true, true, true, true, true, true, true, true, false, false, false, false, false, false, false] rfl rfl (by kernel_rfl) (fun _ _ _ h => h) (Or.inl ⟨by rfl, ?_⟩) hHeld ?_ ?_; rotate_left
 ·rintro w' ⟨s0, s1, s2, s3, s4, s5⟩; go_simp; with_reducible rfl
 rotate_left
 ·simp only [Act.put, List.setIfInBounds_toArray, List.set_cons_zero, List.set_cons_succ, i64_w, i32_w]; rfl
 refine take_ (i := 10) (N := some 27) (v := ?_) (a' := ?_) #[true, true, true, true, true, true, true, true, true, true, true, false, false, false, false, false, false] rfl rfl (by kernel_rfl) (fun _ _ _ h => h) (Or.inl ⟨by rfl, ?_⟩) hHeld ?_ ?_; rotate_left
 ·rintro w' ⟨s0, s1, s2, s3, s4, s5⟩; go_simp; with_reducible rfl
 rotate_left
 ·simp only [Act.put, List.setIfInBounds_toArray, List.set_cons_zero, List.set_cons_succ, i64_w, i32_w]; rfl
 refine take_ (i := 11) (N := some 28) (v := ?_) (a' := ?_) #[true, true, true, true, true, true, true, true, true, true, true, true, false, false, false, false, false] rfl rfl (by kernel_rfl) (fun _ _ _ h => h) (Or.inl ⟨by rfl, ?_⟩) hHeld ?_ ?_; rotate_left
 ·rintro w' ⟨s0, s1, s2, s3, s4, s5⟩; go_simp; with_reducible rfl
 rotate_left
 ·simp only [Act.put, List.setIfInBounds_toArray, List.set_cons_zero, List.set_cons_succ, i64_w, i32_w]; rfl
 refine take_ (i := 12) (N := some 29) (v := ?_) (a' := ?_) #[true, true, true, true, true, true, true, true, true, true, true, true, true, false, false, false, false] rfl rfl (by kernel_rfl) (fun _ _ _ h => h) (Or.inl ⟨by rfl, ?_⟩) hHeld ?_ ?_; rotate_left
 ·rintro w' ⟨s0, s1, s2, s3, s4, s5⟩; go_simp; with_reducible rfl
 rotate_left
 ·simp only [Act.put, List.setIfInBounds_toArray, List.set_cons_zero, List.set_cons_succ, i64_w, i32_w]; rfl
 refine take_ (i := 13) (N := some 30) (v := ?_) (a' := ?_) #[true, true, true, true, true, true, true, true, true, true, true, true, true, true, false, false, false] rfl rfl (by kernel_rfl) (fun _ _ _ h => h) (Or.inl ⟨by rfl, ?_⟩) hHeld ?_ ?_; rotate_left
 ·rintro w' ⟨s0, s1, s2, s3, s4, s5⟩; go_simp; with_reducible rfl
 rotate_left
 ·simp only [Act.put, List.setIfInBounds_toArray, List.set_cons_zero, List.set_cons_succ, i64_w, i32_w]; rfl
 refine one_ (i := 14) (N := some 31) #[true, true, true, true, true, true, true, true, true, true, true, true, true, true, true, false, false] rfl rfl (by kernel_rfl) (by decide) (fun K hK => ?_); go_simp; go_at_call 55; refine (tree_width.calls k a0_0 a0_1 a0_2 A0_3 c0_3 l0_3 wd _ Cn.out hc0_3 E2.out).mono ?_; rintro e w4 ⟨rfl, hb⟩
 have hk4 : (fun w' : World => w'.cell? ⟨w.heap.size, 0, none⟩ = some (.int .i64 a0_0) ∧ w'.cell? ⟨w.heap.size, 1, none⟩ = some (.int .i64 a0_1) ∧ w'.cell? ⟨w.heap.size, 2, none⟩ = some (.string a0_2) ∧ w'.cell? ⟨w.heap.size, 3, none⟩ = some (.slice A0_3 l0_3.length c0_3) ∧ w'.cell? ⟨w.heap.size + 1, 0, none⟩ = some (.int .i64 a1_0) ∧ w'.cell? ⟨w.heap.size + 1, 1, none⟩ = some (.int .i64 a1_1)) w4 := ⟨pw_cell_below hb hHeld.1, pw_cell_below hb hHeld.2.1, pw_cell_below hb hHeld.2.2.1, pw_cell_below hb hHeld.2.2.2.1, pw_cell_below hb hHeld.2.2.2.2.1, pw_cell_below hb hHeld.2.2.2.2.2⟩
 replace Cn := Aside0.mk (Kd.C_below Cn.out hb); replace H2 := Aside0.mk (blk_below H2.out hb); replace H3 := Aside0.mk (blk_below H3.out hb); replace HB := Aside0.mk (Cl.bstep HB.out hb); clear hb; refine hK.out _ _ hk4 (fun hHeld => ?_); clear hK K; refine take_ (i := 15) (N := some 32) (v := ?_) (a' := ?_) #[true, true, true, true, true, true, true, true, true, true, true, true, true, true, true, true, false] rfl rfl (by kernel_rfl) (fun _ _ _ h => h) (Or.inl ⟨by rfl, ?_⟩) hHeld ?_ ?_; rotate_left
 ·rintro w' ⟨s0, s1, s2, s3, s4, s5⟩; go_simp; with_reducible rfl
 rotate_left
 ·simp only [Act.put, List.setIfInBounds_toArray, List.set_cons_zero, List.set_cons_succ, i64_w, i32_w]; rfl
 refine take_ (i := 16) (N := some 33) (v := ?_) (a' := ?_) #[true, true, true, true, true, true, true, true, true, true, true, true, true, true, true, true, true] rfl rfl (by kernel_rfl) (fun _ _ _ h => h) (Or.inl ⟨by rfl, ?_⟩) hHeld ?_ ?_; rotate_left
 ·rintro w' ⟨s0, s1, s2, s3, s4, s5⟩; go_simp; with_reducible rfl
 rotate_left
 ·simp only [Act.put, List.setIfInBounds_toArray, List.set_cons_zero, List.set_cons_succ, i64_w, i32_w]; rfl
 refine done_ (by kernel_rfl) ?_; clear yH2_0 yH2_1 yH2_2 yH2_3 yH3_0 yH3_1 hS hHeld hk4 E1 E2 d1 d2 d3; go_wp2_with fail
 go_loopg [6, 7] k (fun kq v6 v7 w' => ∃ (n : S26) (A : Option Addr) (cc : Nat) (acc : List Int) (fr : Int), v7 = .int .i64 fr ∧ Aside0 (tree_Cover.l0 kq acc fr n.f0 n.f1.f0 n.f1.f1 n.f2 a1_0 a1_1 = some (r1, r2)) ∧ Aside0 (Kd.C k26 w A n.f2.length n.f2 ∧ n.f2.length ≤ cc) ∧ Aside0 (w'.heap[w.heap.size]? = some (.cells #[.int .i64 n.f0, .int .i64 n.f1.f0, .string n.f1.f1, .slice A n.f2.length cc] 26 (0, 0))) ∧ Aside0 (w'.heap[w.heap.size + 1]? = some (.cells #[.int .i64 a1_0, .int .i64 a1_1] 28 (0, 0))) ∧ Aside0 (Kd.R (Kd.int .i64) 3 w' w.heap.size (fun _ => True) v6 acc) ∧ Aside0 (Below w.heap.size w w'))
 case atStart => exact ⟨⟨a0_0, ⟨a0_1, a0_2⟩, l0_3⟩, A0_3, c0_3, [], 0, rfl, HH, ⟨C0.out, hc0_3⟩, H2, H3, ⟨Kd.R_nil _ _ _ _ _⟩, HB⟩
 case round =>
  clear HH C0 Cn H2 H3 HB; obtain ⟨n, A, cc, acc, fr, rfl, HA, HC, HG, HS, HO, HB⟩ := hrel
  cases gk with
  | zero => exact absurd HA.out (by simp [tree_Cover.l0])
  | succ kq =>
  have H := HA.out; rw [tree_Cover.l0] at H; have HL := Aside0.mk H; clear HA H; obtain ⟨z0, z1, z2, z3⟩ := Cl.four HG.out; obtain ⟨s0, s1⟩ := Cl.two HS.out; have hmax : n.f2.length ≤ 9223372036854775807 := HC.out.1.2.1; go_wp2_with fail
  go_loopg [8, 9, 10, 38] kq (fun kq2 v8 v9 v10 v38 w' => ∃ (nx bg at_ : Int) (i : Nat), v8 = .int .i64 nx ∧ v9 = .int .i64 bg ∧ v10 = .int .i64 at_ ∧ v38 = .int .i64 (i : Int) ∧ Aside0 (kq2 ≤ kq) ∧ Aside0 (tree_Cover.l1 kq2 acc nx bg at_ n.f2 (n.f2.length : Int) (i : Int) n.f0 n.f1.f0 n.f1.f1 n.f2 a1_0 a1_1 = some (r1, r2)) ∧ Aside0 (w'.heap[w.heap.size]? = some (.cells #[.int .i64 n.f0, .int .i64 n.f1.f0, .string n.f1.f1, .slice A n.f2.length cc] 26 (0, 0))) ∧ Aside0 (w'.heap[w.heap.size + 1]? = some (.cells #[.int .i64 a1_0, .int .i64 a1_1] 28 (0, 0))) ∧ Aside0 (Kd.R (Kd.int .i64) 3 w' w.heap.size (fun _ => True) u6 acc) ∧ Aside0 (Below w.heap.size w w'))
  case atStart => exact ⟨-1, 0, fr, 0, rfl, rfl, rfl, rfl, ⟨Nat.le_refl _⟩, HL, HG, HS, HO, HB⟩
  case round =>
   clear HL HG HS HO HB z0 z1 z2 z3 s0 s1; obtain ⟨nx, bg, at_, i, rfl, rfl, rfl, rfl, HK, HL, HG, HS, HO, HB⟩ := hrel
   cases gk with
   | zero => exact absurd HL.out (by simp [tree_Cover.l1])
   | succ kq2 =>
   have H := HL.out; simp only [tree_Cover.l1] at H; clear HL; obtain ⟨s0, s1⟩ := Cl.two HS.out; by_cases hlt : (i : Int) < (n.f2.length : Int)
   ·rw [if_pos hlt] at H; rw [if_pos (by omega), if_pos hlt] at H; obtain ⟨t, ht, H⟩ := Option.bind_eq_some_iff.mp H; have hd1 : decide ((i : Int) < (n.f2.length : Int)) = true := decide_eq_true hlt
    have hin : i < n.f2.length := (by omega)
    have hrd : rd_T26 n.f2 (i : Int) = n.f2[i] := (by simp [rd_T26, hin])
    obtain ⟨ad, A3, c3, e, hx0, hx1, hx2, hx3, hl3, hC3⟩ := at_T26 HC.out.1 (i : Int) (by omega) hlt; rw [hrd] at hx0 hx1 hx2 hx3 hl3 hC3 ht; rw [Int.toNat_natCast] at hx0 hx1 hx2 hx3; subst e; replace hx0 := zh HB hx0; replace hx1 := zh HB hx1; replace hx2 := zh HB hx2; replace hx3 := zh HB hx3; clear hrd; generalize n.f2[i] = y at *; have E2 := Aside0.mk ht; have HC3 := Aside0.mk (And.intro hC3 hl3); have hal := below_alloc (Below.refl wr.heap.size wr) (.cells #[.int .i64 y.f0, .int .i64 y.f1.f0, .string y.f1.f1, .slice A3 y.f2.length c3] 26); have HB1 := Aside0.mk (Cl.bstep HB.out hal); have HG1 := Aside0.mk (blk_below HG.out hal); have HS1 := Aside0.mk (blk_below HS.out hal); have HO1 := Aside0.mk (Kd.R_below HO.out hal); have HY1 := Aside0.mk (blk_new wr (.cells #[.int .i64 y.f0, .int .i64 y.f1.f0, .string y.f1.f1, .slice A3 y.f2.length c3] 26)); clear ht hC3 hl3 hal HO HG HS
    obtain ⟨atN, hatN⟩ : ∃ a : Int, wrap64 (at_ + t) = a := ⟨_, rfl⟩
    rw [hatN] at H
    have ei : wrap64 ((i : Int) + 1) = ((i + 1 : Nat) : Int) := (by (unfold wrap64; omega))
    rw [ei] at H; clear ei; by_cases c1 : at_ ≤ a1_0
    ·rw [if_pos c1] at H; have d1 : decide (at_ ≤ a1_0) = true := decide_eq_true c1; by_cases c2 : a1_1 ≤ atN
     ·rw [if_pos c2] at H; have d2 : decide (a1_1 ≤ atN) = true := decide_eq_true c2; have HL2 := Aside0.mk H; clear H
      go_wp2_with (go_at_call 55; refine (tree_width.calls kq2 _ _ _ _ _ _ _ _ (Kd.C_below HC3.out.1 HB1.out) HC3.out.2 E2.out).mono ?_; rintro e w3 ⟨rfl, hb⟩; have HB3 := Aside0.mk (Cl.bstep HB1.out hb); have HG3 := Aside0.mk (blk_below HG1.out hb); have HS3 := Aside0.mk (blk_below HS1.out hb); have HO3 := Aside0.mk (Kd.R_below HO1.out hb); obtain ⟨q0, q1⟩ := Cl.two HS3.out; clear hb)
      go_roundg kq2
      case measure => omega
      case rel => exact ⟨i, at_, atN, i + 1, by go_num, by go_num, by go_num, by go_num, ⟨by have := HK.out; omega⟩, HL2, HG3, HS3, HO3, HB3⟩
     ·rw [if_neg c2] at H; have d2 : decide (a1_1 ≤ atN) = false := decide_eq_false c2; have HL2 := Aside0.mk H; clear H
      go_wp2_with (go_at_call 55; refine (tree_width.calls kq2 _ _ _ _ _ _ _ _ (Kd.C_below HC3.out.1 HB1.out) HC3.out.2 E2.out).mono ?_; rintro e w3 ⟨rfl, hb⟩; have HB3 := Aside0.mk (Cl.bstep HB1.out hb); have HG3 := Aside0.mk (blk_below HG1.out hb); have HS3 := Aside0.mk (blk_below HS1.out hb); have HO3 := Aside0.mk (Kd.R_below HO1.out hb); obtain ⟨q0, q1⟩ := Cl.two HS3.out; clear hb)
      go_roundg kq2
      case measure => omega
      case rel => exact ⟨nx, bg, atN, i + 1, by go_num, by go_num, by go_num, by go_num, ⟨by have := HK.out; omega⟩, HL2, HG3, HS3, HO3, HB3⟩
    ·rw [if_neg c1] at H; have d1 : decide (at_ ≤ a1_0) = false := decide_eq_false c1; have HL2 := Aside0.mk H; clear H
     go_wp2_with (go_at_call 55; refine (tree_width.calls kq2 _ _ _ _ _ _ _ _ (Kd.C_below HC3.out.1 HB1.out) HC3.out.2 E2.out).mono ?_; rintro e w3 ⟨rfl, hb⟩; have HB3 := Aside0.mk (Cl.bstep HB1.out hb); have HG3 := Aside0.mk (blk_below HG1.out hb); have HS3 := Aside0.mk (blk_below HS1.out hb); have HO3 := Aside0.mk (Kd.R_below HO1.out hb); obtain ⟨q0, q1⟩ := Cl.two HS3.out; clear hb)
     go_roundg kq2
     case measure => omega
     case rel => exact ⟨nx, bg, atN, i + 1, by go_num, by go_num, by go_num, by go_num, ⟨by have := HK.out; omega⟩, HL2, HG3, HS3, HO3, HB3⟩
   ·rw [if_neg hlt] at H; have hd1 : decide ((i : Int) < (n.f2.length : Int)) = false := decide_eq_false hlt; by_cases c4 : nx < 0
    ·rw [if_pos c4] at H; simp only [Option.some.injEq, Prod.mk.injEq] at H; obtain ⟨rfl, rfl⟩ := H; have d4 : decide (nx < 0) = true := decide_eq_true c4; go_wp2
     (try rw [Exit.noGoto_ret])
     go_ret2
     exact ⟨_, rfl, HO.out, HB.out⟩
    ·rw [if_neg c4] at H; obtain ⟨hlen, H⟩ := Ut.ite_some H; obtain ⟨hn0, H⟩ := Ut.ite_some H; obtain ⟨hn1, H⟩ := Ut.ite_some H; have HL2 := Aside0.mk H; have d4 : decide (nx < 0) = false := decide_eq_false c4; clear H; obtain ⟨j, rfl⟩ := Int.eq_ofNat_of_zero_le hn0
     have hin : j < n.f2.length := (by omega)
     have hrd : rd_T26 n.f2 (j : Int) = n.f2[j] := (by simp [rd_T26, hin])
     obtain ⟨ad, A3, c3, e, hx0, hx1, hx2, hx3, hl3, hC3⟩ := at_T26 HC.out.1 (j : Int) (by omega) hn1; rw [hrd] at hx0 hx1 hx2 hx3 hl3 hC3; rw [Int.toNat_natCast] at hx0 hx1 hx2 hx3; subst e; have h2 := HL2.out; rw [hrd] at h2; have HL3 := Aside0.mk h2; clear h2 HL2 hrd; generalize n.f2[j] = y at *; have HC3 := Aside0.mk (And.intro hC3 hl3); have HX := Aside0.mk (And.intro hx0 (And.intro hx1 (And.intro hx2 hx3))); clear hC3 hl3 hx0 hx1 hx2 hx3; obtain ⟨z0, z1, z2, z3⟩ := Cl.four HG.out
     go_wp2_with (first | (at_builtin; refine Kd.R_append (Kd.int .i64) (w0 := w) w.heap.size rfl (.tmp 66) (.tmp 68) 30 3 (.int .i64 0) 8 rfl Try.underlying30 tree_Cover.info rfl (by decide) (by omega) u6 acc (j : Int) [.int .i64 (j : Int)] (fun _ => True) (fun _ => False) rfl rfl rfl (fun _ hk => hk.elim) (fun _ _ => trivial) HO.out HB.out (below_size HB.out) (by omega) ?_; intro v8 w4 ho hb hg hat; have HB4 := Aside0.mk hb; have HO4 := Aside0.mk ho; have HG4 := Aside0.mk (blk_grown HG.out hg (Kd.R_ne HO.out HG.out (by decide))); have HS4 := Aside0.mk (blk_grown HS.out hg (Kd.R_ne HO.out HS.out (by decide))); clear ho hb hg hat; obtain ⟨z0, z1, z2, z3⟩ := Cl.four HG4.out; obtain ⟨f0, f1, f2, f3⟩ := Cl.ffour HG4.out; obtain ⟨x0, x1, x2, x3⟩ := HX.out; replace x0 := (HB4.out.cell (World.block_lt_of_cell? w _ x0)).trans x0; replace x1 := (HB4.out.cell (World.block_lt_of_cell? w _ x1)).trans x1; replace x2 := (HB4.out.cell (World.block_lt_of_cell? w _ x2)).trans x2; replace x3 := (HB4.out.cell (World.block_lt_of_cell? w _ x3)).trans x3))
     go_roundg kq2
     case measure => have := HK.out; omega
     case rel => exact ⟨y, A3, c3, acc ++ [(j : Int)], bg, by go_num, HL3, HC3, ⟨by refine blk_put (cs := #[.int .i64 y.f0, .int .i64 y.f1.f0, .string y.f1.f1, .slice (some ad) n.f2.length cc]) ?_ 3 _ rfl; refine blk_put (cs := #[.int .i64 y.f0, .int .i64 y.f1.f0, .string n.f1.f1, .slice (some ad) n.f2.length cc]) ?_ 2 _ rfl; refine blk_put (cs := #[.int .i64 y.f0, .int .i64 n.f1.f0, .string n.f1.f1, .slice (some ad) n.f2.length cc]) ?_ 1 _ rfl; refine blk_put (cs := #[.int .i64 n.f0, .int .i64 n.f1.f0, .string n.f1.f1, .slice (some ad) n.f2.length cc]) ?_ 0 _ rfl; exact HG4.out⟩, ⟨(Below.heap_setCell _ _ _ _ (by simp)).trans ((Below.heap_setCell _ _ _ _ (by simp)).trans ((Below.heap_setCell _ _ _ _ (by simp)).trans ((Below.heap_setCell _ _ _ _ (by simp)).trans (HS4.out))))⟩, ⟨by refine Kd.R_set (Kd.R_set (Kd.R_set (Kd.R_set HO4.out HG4.out ?ht 0 _) (blk_put HG4.out 0 _ rfl) ?ht 1 _) (blk_put (blk_put HG4.out 0 _ rfl) 1 _ rfl) ?ht 2 _) (blk_put (blk_put (blk_put HG4.out 0 _ rfl) 1 _ rfl) 2 _ rfl) ?ht 3 _; intro q hq e; subst e; revert hq; decide⟩, ⟨by repeat (first | exact HB4.out | refine below_set ?_ (Nat.le_refl _))⟩⟩

end Go.Proofs.Ytnafnieocpkkhaa.P

set_option linter.unusedVariables false
set_option linter.unusedSimpArgs false
namespace Go.Proofs.Ytnafnieocpkkhaa.P
open Go.RowKit Go.Proofs.YtnafnieocpkkhaaW.PrintWords Go.Proofs.YtnafnieocpkkhaaW.PrintLast Go.Proofs.YtnafnieocpkkhaaW.PrintMore
def isF (n : Nd) : Prop := ∃ m, fo m n = true
theorem isF.of_fmd {n : Nd} (h : fmd n = true) : isF n := ⟨1001, (Bool.and_eq_true_iff.1 h).1⟩
theorem isF.leaf {n : Nd} (h : isF n) (h1 : n.f0 = 1) : n.f2 = [] ∧ 0 < n.f1.f1.size := by
 obtain ⟨m, h⟩ := h
 cases m with
 | zero => cases h
 | succ m =>
  rw [fo, if_pos h1, Bool.and_eq_true, decide_eq_true_eq] at h; exact ⟨List.eq_nil_of_length_eq_zero h.1, (of_decide_eq_true h.2).1⟩
theorem isF.node {n : Nd} (h : isF n) (h1 : ¬ n.f0 = 1) : n.f1.f1.size = 0 ∧ n.f1.f0 = 0 := by
 obtain ⟨m, h⟩ := h
 cases m with
 | zero => cases h
 | succ m =>
  rw [fo, if_neg h1, Bool.and_eq_true, Bool.and_eq_true, Bool.and_eq_true, Bool.and_eq_true, beq_iff_eq, beq_iff_eq, Lib.toList_data] at h; have := congrArg List.length h.1.1.2.2; rw [isize] at this; exact ⟨this, h.1.1.2.1⟩
theorem isF.kid {n x : Nd} (h : isF n) (hx : x ∈ n.f2) : isF x := by
 obtain ⟨m, h⟩ := h
 cases m with
 | zero => cases h
 | succ m =>
  rw [fo] at h
  split at h
  ·rw [Bool.and_eq_true, decide_eq_true_eq] at h; rw [List.eq_nil_of_length_eq_zero h.1] at hx
   cases hx
  ·rw [Bool.and_eq_true] at h; exact ⟨m, List.all_eq_true.1 h.2 x hx⟩
theorem isF.at {p : List Int} {n x : Nd} {o : Nat} (h : isF n) (hx : atp p n = some (x, o)) : isF x := by
 obtain ⟨m, h⟩ := h; exact atp_fo h hx
theorem isF.wd {n : Nd} (h : isF n) (h1 : ¬ n.f0 = 1) : P.wd n = wds n.f2 := by
 rw [wd_wds, (h.node h1).1, Nat.zero_add]
theorem isF.lv : ∀ {n : Nd}, isF n → (0 < lv n ↔ 0 < P.wd n) := by
 suffices H : ∀ n, isF n → (0 < P.lv n ↔ 0 < P.wd n) from fun {n} => H n
 refine Nd.ind ?_; intro n ih h; rw [lv_eq]; by_cases h1 : n.f0 = 1
 ·rw [if_pos h1, wd_wds]; have := (h.leaf h1).2
  omega
 ·rw [if_neg h1, h.wd h1]; unfold wds
  have : ∀ l : List Nd, (∀ x ∈ l, x ∈ n.f2) → (0 < (l.map P.lv).sum ↔ 0 < (l.map P.wd).sum) := by
   intro l
   induction l with
   | nil => intro _; exact Iff.rfl
   | cons y r ihl =>
    intro hl; have e1 := ih y (hl y List.mem_cons_self) (h.kid (hl y List.mem_cons_self)); have e2 := ihl (fun z hz => hl z (List.mem_cons_of_mem _ hz)); simp only [List.map_cons, List.sum_cons]
    omega
  exact this n.f2 (fun _ h => h)
def holds (F T a : Nat) (l : List Nd) (j : Nat) (x : Nd) : Prop := l[j]? = some x ∧ a + wds (l.take j) ≤ F ∧ T ≤ a + wds (l.take j) + wd x
end Go.Proofs.Ytnafnieocpkkhaa.P

set_option linter.unusedVariables false
set_option linter.unusedSimpArgs false
namespace Go.Proofs.Ytnafnieocpkkhaa.P
open Go.RowKit Go.Proofs.YtnafnieocpkkhaaW.PrintWords Go.Proofs.YtnafnieocpkkhaaW.PrintLast Go.Proofs.YtnafnieocpkkhaaW.PrintMore
/-! ### Same -/
theorem rsame_loop (a b : Nd) (hl : a.f2.length = b.f2.length) (hz : a.f2.length < 1000000) : ∀ (r : List Nd) (i : Nat), a.f2.drop i = r → (∀ x ∈ r, ∀ y : Nd, ∃ t, Ev (fun k => marginaliaref05_Same.f k x.f0 x.f1.f0 x.f1.f1 x.f2 y.f0 y.f1.f0 y.f1.f1 y.f2) t ∧ (t = true ↔ x = y)) →
  ∃ t, Ev (fun k => marginaliaref05_Same.l0 k (i : Int) a.f0 a.f1.f0 a.f1.f1 a.f2 b.f0 b.f1.f0 b.f1.f1 b.f2) t ∧ (t = true ↔ r = b.f2.drop i) := by
 intro r
 induction r with
 | nil =>
  intro i hd hx; have hle := le_of_nil hd; refine ⟨true, Ev.shift ?_, ?_⟩
  ·simp only [marginaliaref05_Same.l0]; exact Ev.neg (by omega) (Ev.now _)
  ·rw [List.drop_of_length_le (by omega)]
   simp
 | cons e r ih =>
  intro i hd hx; have hlt := lt_of_drop hd
  have hlt2 : i < b.f2.length := (by omega)
  obtain ⟨t, h1, h2⟩ := hx e List.mem_cons_self (b.f2[i]'hlt2); have hb : b.f2.drop i = b.f2[i]'hlt2 :: b.f2.drop (i + 1) := List.drop_eq_getElem_cons hlt2; obtain ⟨t2, h3, h4⟩ := ih (i + 1) (drop_next hd) (fun x hm => hx x (List.mem_cons_of_mem _ hm)); have hrb := rd_nd hb; by_cases ht : t = true
  ·refine ⟨t2, Ev.shift ?_, ?_⟩
   ·simp only [marginaliaref05_Same.l0]; rw [rd_nd hd, hrb, w64 (n := (i : Int) + 1) (by omega) (by omega)]; refine Ev.pos (by omega) (Ev.pos (by omega) (Ev.pos (by omega) (Ev.bind h1 (Ev.pos ht ?_))))
    exact_mod_cast h3
   ·rw [h4, hb]; have := h2.1 ht
    constructor
    ·intro h; rw [this, h]
    ·intro h; injection h
  ·refine ⟨false, Ev.shift ?_, ?_⟩
   ·simp only [marginaliaref05_Same.l0]; rw [rd_nd hd, hrb, w64 (n := (i : Int) + 1) (by omega) (by omega)]; exact Ev.pos (by omega) (Ev.pos (by omega) (Ev.pos (by omega) (Ev.bind h1 (Ev.neg ht (Ev.now _)))))
   ·constructor
    ·intro h; cases h
    ·intro h; rw [hb] at h; injection h with h; exact absurd (h2.2 h) ht
theorem bytes_toList {a b : ByteArray} (h : a.toList = b.toList) : a = b := by
 rw [Lib.toList_data, Lib.toList_data] at h
 cases a; cases b
 congr 1
 exact Array.ext' h
theorem rsame_ev : ∀ a : Nd, sm a → ∀ b : Nd, ∃ t, Ev (fun k => marginaliaref05_Same.f k a.f0 a.f1.f0 a.f1.f1 a.f2 b.f0 b.f1.f0 b.f1.f1 b.f2) t ∧ (t = true ↔ a = b) := by
 refine Nd.ind ?_; intro a ih hs b
 have no : ¬ a = b → Ev (fun k => marginaliaref05_Same.j0 k true a.f0 a.f1.f0 a.f1.f1 a.f2 b.f0 b.f1.f0 b.f1.f1 b.f2) false := fun _ => by
  refine Ev.shift ?_; simp only [marginaliaref05_Same.j0]; exact Ev.pos trivial (Ev.now _)
 have fin : ∀ {g : Nat → Option Bool}, ¬ a = b → Ev g false → ∃ t, Ev g t ∧ (t = true ↔ a = b) := fun h e => ⟨false, e, by simp [h]⟩
 by_cases h0 : a.f0 = b.f0
 ·by_cases h1 : a.f1.f0 = b.f1.f0
  ·by_cases h2 : a.f1.f1 = b.f1.f1
   ·have e1 : (!(a.f1.f0 == b.f1.f0) || (!(a.f1.f1.toList == b.f1.f1.toList))) = false := (by rw [h1, h2]; simp)
    by_cases h3 : a.f2.length = b.f2.length
    ·obtain ⟨t, q1, q2⟩ := rsame_loop a b h3 hs.len a.f2 0 rfl (fun x hx y => ih x hx (hs.kid hx) y); refine ⟨t, Ev.shift ?_, ?_⟩
     ·simp only [marginaliaref05_Same.f]; refine Ev.pos h0 (Ev.neg (by rw [e1]; decide) (Ev.shift ?_)); simp only [marginaliaref05_Same.j0]; exact Ev.neg (by rw [h3]; simp) q1
     ·rw [q2, List.drop_zero]
      constructor
      ·intro h
       cases a with
       | mk x y z => cases b with
        | mk x' y' z' =>
         cases y; cases y'
         simp only at h0 h1 h2 h; subst h0 h1 h2 h; rfl
      ·intro h; rw [h]
    ·have hn : ¬ a = b := fun h => h3 (by rw [h])
     refine fin hn (Ev.shift ?_); simp only [marginaliaref05_Same.f]; refine Ev.pos h0 (Ev.neg (by rw [e1]; decide) ?_); rw [show ((a.f2.length : Int) != (b.f2.length : Int)) = true by simp; omega]; exact no hn
   ·have hn : ¬ a = b := fun h => h2 (by rw [h])
    refine fin hn (Ev.shift ?_); simp only [marginaliaref05_Same.f]; refine Ev.pos h0 (Ev.pos ?_ (no hn)); rw [Bool.or_eq_true]
    right
    simp only [Bool.not_eq_true', beq_eq_false_iff_ne, ne_eq]
    exact fun h => h2 (bytes_toList h)
  ·have hn : ¬ a = b := fun h => h1 (by rw [h])
   refine fin hn (Ev.shift ?_); simp only [marginaliaref05_Same.f]; refine Ev.pos h0 (Ev.pos ?_ (no hn)); rw [Bool.or_eq_true]
   left
   simpa using h1
 ·have hn : ¬ a = b := fun h => h0 (by rw [h])
  refine fin hn (Ev.shift ?_); simp only [marginaliaref05_Same.f]; exact Ev.neg h0 (no hn)
end Go.Proofs.Ytnafnieocpkkhaa.P

