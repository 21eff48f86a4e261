/- What the claim's row needs of the seat's texts, part 4: put together by a program of this session (declarations that no text of the claim names are left out). -/
import Derived.Deep.DeepCutAuto
import Derived.Deep.CutBlock
import Derived.Lib.AppendZerosOnto
import Derived.Outline
import Derived.Deep.RegionLawGrows
import Derived.Deep.RegionHeld3
import Derived.Lib.SliceRun
import Derived.Test.YtahcpappailjgaaK3
set_option linter.unusedVariables false
set_option linter.unusedSimpArgs false
namespace Go.Proofs.Ytahcpappailjgaa.SortW
open Go Go.RowKit Go.Proofs.Ytahcpappailjgaa Go.Proofs.YtahcpappailjgaaW.PrintWords Go.Proofs.YtahcpappailjgaaW.PrintLast Go.Proofs.YtahcpappailjgaaW.PrintMore
open Go.Proofs.Ytahcpappailjgaa.SortP
variable {α : Type} {E : Ent α}
/-- Two rows in order, one behind the other, become one. -/
def MergeOK (E : Ent α) (κ : α → Int) (tag : α → Nat) (g cap : Nat) (w0 : World) (N : Nat) : Prop := ∀ (T a m b : Nat) (X L R Y : List α) (w : World), b ≤ a + N → 0 < L.length → 0 < R.length → a = X.length → m = X.length + L.length → b = X.length + L.length + R.length → T = X.length + L.length + R.length + Y.length → T ≤ 1000000 → w0.grownBy w (some g) →
 Srt κ tag L → Srt κ tag R → (∀ x ∈ L, ∀ y ∈ R, tag x < tag y) → Row E w g (X ++ (L ++ (R ++ Y))) →
 Calls Try.prog 95 #[.slice (some ⟨g, 0, none⟩) T cap, .int .i64 (a : Int), .int .i64 (m : Int), .int .i64 (b : Int), .func (.func 70) #[] #[]] w fun e w' => e = .returned (.tuple #[]) ∧ (∃ S, S.Perm (L ++ R) ∧ Srt κ tag S ∧ Row E w' g (X ++ (S ++ Y))) ∧ w.grownBy w' (some g)
theorem Row.pair {w : World} {g : Nat} {d : List α} (h : Row E w g d) {p q : Nat} {x y : α} (hp : d[p]? = some x) (hq : d[q]? = some y) : ∃ A n c A' n' c', E x A n c ∧ E y A' n' c' ∧ ∀ w2, Below w.heap.size w w2 → (w2.cell? ⟨g, p, none⟩ = some (.slice A n c) ∧ w2.cell? ⟨g, q, none⟩ = some (.slice A' n' c')) ∧ w2.frozen? ⟨g, p, none⟩ = false ∧ w2.frozen? ⟨g, q, none⟩ = false := by
 obtain ⟨A, n, c, x1, e1, _⟩ := h.get hp; obtain ⟨A', n', c', x2, e2, _⟩ := h.get hq; refine ⟨A, n, c, A', n', c', e1, e2, fun w2 hb => ⟨⟨(hb.cell (World.block_lt_of_cell? w _ x1)).trans x1, (hb.cell (World.block_lt_of_cell? w _ x2)).trans x2⟩, ?_, ?_⟩⟩
 ·obtain ⟨_, _, _, _, _, f⟩ := (h.below hb).get hp; exact f
 ·obtain ⟨_, _, _, _, _, f⟩ := (h.below hb).get hq; exact f
theorem get_in (X M Y : List α) (i p : Nat) (y : α) (hp : p = X.length + i) (hy : M[i]? = some y) : (X ++ (M ++ Y))[p]? = some y := by
 subst hp; rw [List.getElem?_append_right (by omega), Nat.add_sub_cancel_left, List.getElem?_append_left (List.getElem?_eq_some_iff.mp hy).1]; exact hy
/-- An element moves one place to the right. -/
theorem mv_right (X R Y : List α) (x : α) (a k : Nat) (y : α) (ha : a = X.length) (hk : a ≤ k) (hy : R[k - a]? = some y) :
  (X ++ (R.take (k - a) ++ x :: (R.drop (k - a) ++ Y)))[k]? = some x ∧ (X ++ (R.take (k - a) ++ x :: (R.drop (k - a) ++ Y)))[k + 1]? = some y ∧
  swp (X ++ (R.take (k - a) ++ x :: (R.drop (k - a) ++ Y))) k (k + 1) x y = X ++ (R.take (k + 1 - a) ++ x :: (R.drop (k + 1 - a) ++ Y)) := by
 obtain ⟨hlt, rfl⟩ := List.getElem?_eq_some_iff.mp hy
 have e1 : (X ++ R.take (k - a)).length = k := (by rw [List.length_append, List.length_take]; omega)
 have e2 : k + 1 - a = (k - a) + 1 := (by omega)
 rw [e2, List.drop_eq_getElem_cons hlt, List.take_succ_eq_append_getElem hlt]; refine ⟨?_, ?_, ?_⟩
 ·have := get_mid (X ++ R.take (k - a)) x (R[k - a] :: R.drop (k - a + 1) ++ Y); rw [e1, List.append_assoc] at this; exact this
 ·have := get_mid (X ++ R.take (k - a) ++ [x]) R[k - a] (R.drop (k - a + 1) ++ Y); rw [List.length_append, e1, List.length_singleton, List.append_assoc, List.append_assoc] at this; exact this
 ·have := swp_split (X ++ R.take (k - a)) [] (R.drop (k - a + 1) ++ Y) x R[k - a]; rw [e1, List.length_nil, Nat.add_zero, List.append_assoc, List.append_assoc] at this; simp only [List.nil_append] at this; rw [List.cons_append, this]; simp only [List.append_assoc, List.singleton_append]
/-- An element moves one place to the left. -/
theorem mv_left (X R Y : List α) (x : α) (a k : Nat) (y : α) (ha : a = X.length) (hk : a ≤ k) (hy : R[k - a]? = some y) :
  (X ++ (R.take (k + 1 - a) ++ x :: (R.drop (k + 1 - a) ++ Y)))[k]? = some y ∧ (X ++ (R.take (k + 1 - a) ++ x :: (R.drop (k + 1 - a) ++ Y)))[k + 1]? = some x ∧
  swp (X ++ (R.take (k + 1 - a) ++ x :: (R.drop (k + 1 - a) ++ Y))) (k + 1) k x y = X ++ (R.take (k - a) ++ x :: (R.drop (k - a) ++ Y)) := by
 obtain ⟨hlt, rfl⟩ := List.getElem?_eq_some_iff.mp hy
 have e1 : (X ++ R.take (k - a)).length = k := (by rw [List.length_append, List.length_take]; omega)
 have e2 : k + 1 - a = (k - a) + 1 := (by omega)
 rw [e2, List.drop_eq_getElem_cons hlt, List.take_succ_eq_append_getElem hlt]; refine ⟨?_, ?_, ?_⟩
 ·have := get_mid (X ++ R.take (k - a)) R[k - a] (x :: (R.drop (k - a + 1) ++ Y)); rw [e1, List.append_assoc] at this
  simpa only [List.append_assoc, List.singleton_append] using this
 ·have := get_mid (X ++ R.take (k - a) ++ [R[k - a]]) x (R.drop (k - a + 1) ++ Y); rw [List.length_append, e1, List.length_singleton, List.append_assoc, List.append_assoc] at this
  simpa only [List.append_assoc, List.singleton_append] using this
 ·have := swp_split' (X ++ R.take (k - a)) [] (R.drop (k - a + 1) ++ Y) R[k - a] x; rw [e1, List.length_nil, Nat.add_zero, List.append_assoc, List.append_assoc] at this; simp only [List.nil_append] at this; simp only [List.append_assoc, List.singleton_append, List.cons_append]; exact this
set_option maxHeartbeats 16000000 in
set_option maxRecDepth 100000 in
/-- One element ahead of a row. -/
theorem merge_one (κ : α → Int) (tag : α → Nat) (g cap : Nat) (w0 : World) (hC : CmpOK E κ g w0) (T a m b : Nat) (X R Y : List α) (x : α) (w : World) (hR0 : 0 < R.length) (ha : a = X.length) (hm : m = X.length + 1) (hb : b = X.length + 1 + R.length) (hT : T = X.length + 1 + R.length + Y.length) (hbig : T ≤ 1000000) (hW : w0.grownBy w (some g))
  (hs : Srt κ tag R) (ht : ∀ y ∈ R, tag x < tag y) (hR : Row E w g (X ++ (x :: (R ++ Y)))) :
  Calls Try.prog 95 #[.slice (some ⟨g, 0, none⟩) T cap, .int .i64 (a : Int), .int .i64 (m : Int), .int .i64 (b : Int), .func (.func 70) #[] #[]] w fun e w' => e = .returned (.tuple #[]) ∧ (∃ S, S.Perm (x :: R) ∧ Srt κ tag S ∧ Row E w' g (X ++ (S ++ Y))) ∧ w.grownBy w' (some g) := by
 have i1 : IntKind.i64.wrap ((m : Int) - (a : Int)) = 1 := (by rw [i64_w]; unfold wrap64; omega)
 have HR := Aside0.mk hR; have HA := Aside0.mk ha; have HM := Aside0.mk hm; have HB := Aside0.mk hb; have HT := Aside0.mk hT; have HC := Aside0.mk hC; have HW := Aside0.mk hW; have HS := Aside0.mk hs; have HG := Aside0.mk ht
 have hmb : m ≤ b := (by omega)
 have hbt : b ≤ 1000000 := (by omega)
 have HX := Aside0.mk (show (X ++ (x :: (R ++ Y)))[a]? = some x by rw [ha]; exact get_mid X x (R ++ Y)); clear hR hC hW hs ht ha hm hb hT; go_enter Try.func95, Try.ntmps95; go_wp2_with fail
 go_loopg [10, 11] (b - m) (fun kq v10 v11 w' => ∃ (i j : Nat), v10 = .int .i64 (i : Int) ∧ v11 = .int .i64 (j : Int) ∧ Aside0 (j - i ≤ kq ∧ m ≤ i ∧ i ≤ j ∧ j ≤ b) ∧ Aside0 (∀ y, R[i - m - 1]? = some y → m < i → lt κ tag y x) ∧ Aside0 (∀ y, R[j - m]? = some y → j < b → lt κ tag x y) ∧ Aside0 (Row E w' g (X ++ (x :: (R ++ Y)))) ∧ Aside0 (w.grownBy w' (some g)))
 case atStart => exact ⟨m, b, rfl, rfl, ⟨Nat.le_refl _, Nat.le_refl _, hmb, Nat.le_refl _⟩, ⟨fun y _ h => absurd h (Nat.lt_irrefl _)⟩, ⟨fun y _ h => absurd h (Nat.lt_irrefl _)⟩, HR, ⟨grown_refl _ _⟩⟩
 case round =>
  clear HR; obtain ⟨i, j, rfl, rfl, HK, HI, HJ, HR, HD⟩ := hrel; obtain ⟨k1, k2, k3, k4⟩ := HK.out; by_cases hlt : i < j
  ·obtain ⟨h, hh⟩ : ∃ h, h = (i + j) / 2 := ⟨_, rfl⟩
   have hhi : i ≤ h := (by omega)
   have hhj : h < j := (by omega)
   cases gk with
   | zero => exact absurd hlt (by omega)
   | succ kq' =>
   have hv : ((i : Int) + (j : Int)) / 2 = (h : Int) := (by omega)
   obtain ⟨y, hy⟩ : ∃ y, R[h - m]? = some y := ⟨_, List.getElem?_eq_getElem (by have := HB.out; have := HM.out; omega)⟩
   have hyd : (X ++ (x :: (R ++ Y)))[h]? = some y := by
    have := get_in (X ++ [x]) R Y (h - m) h y (by rw [List.length_append, List.length_singleton]; have := HM.out; omega) hy
    simpa using this
   obtain ⟨A1, n1, c1, A2, n2, c2, E1, E2, hx2⟩ := HR.out.pair hyd HX.out; have HX2 := Aside0.mk hx2; have HCC := Aside0.mk (fun (w2 : World) (hb : Below wr.heap.size wr w2) => HC.out w2 y x A1 n1 c1 A2 n2 c2 (grown_trans HW.out (grown_trans HD.out (grown_of_below hb))) E1 E2); have HTG := Aside0.mk (HG.out y (List.mem_of_getElem? hy)); have HY := Aside0.mk hy
   have hhT : h < T := (by have := HB.out; have := HT.out; omega)
   have haT : a < T := (by have := HA.out; have := HT.out; omega)
   have HH := Aside0.mk hh; clear hh hyd hx2 E1 E2 hy; by_cases hκ : κ y < κ x
   ·go_upto_region 5 with fail
    go_wp2_with fail
    go_region_held3 (fun w' => w'.cell? ⟨g, h, none⟩ = some (.slice A1 n1 c1) ∧ w'.cell? ⟨g, a, none⟩ = some (.slice A2 n2 c2)) (first | exact (HX2.out _ (below_drew1 (Below.refl _ _))).1 | exact (HX2.out _ HY5.out).1) (first | (go_simp; go_at_call 70; refine (HCC.out _ (below_drew1 (Below.refl _ _))).mono ?_; rintro e w5 ⟨zz, rfl, hz, hb⟩; have HY5 := Aside0.mk (Kx.below_step (below_drew1 (Below.refl wr.heap.size wr)) hb); have dz : decide (zz < 0) = true := decide_eq_true (hz.mpr hκ); clear hz hb))
    all_goals
     go_wp2_with fail
     go_roundg kq'
     case measure => omega
     case rel => exact ⟨h + 1, j, by go_num, rfl, ⟨by have := HK.out; have := HH.out; omega⟩, ⟨fun y' hy' _ => by
      rw [show h + 1 - m - 1 = h - m by omega, HY.out] at hy'; injection hy' with e; rw [← e]
      exact lt_of κ tag hκ⟩, HJ, ⟨HR.out.below HY5.out⟩, ⟨grown_trans HD.out (grown_of_below HY5.out)⟩⟩
   ·have HKK := Aside0.mk (show κ x ≤ κ y by omega); clear hκ
    go_upto_region 5 with fail
    go_wp2_with fail
    go_region_held3 (fun w' => w'.cell? ⟨g, h, none⟩ = some (.slice A1 n1 c1) ∧ w'.cell? ⟨g, a, none⟩ = some (.slice A2 n2 c2)) (first | exact (HX2.out _ (below_drew1 (Below.refl _ _))).1 | exact (HX2.out _ HY5.out).1) (first | (go_simp; go_at_call 70; refine (HCC.out _ (below_drew1 (Below.refl _ _))).mono ?_; rintro e w5 ⟨zz, rfl, hz, hb⟩; have HY5 := Aside0.mk (Kx.below_step (below_drew1 (Below.refl wr.heap.size wr)) hb); have dz : decide (zz < 0) = false := decide_eq_false (fun h => by have h2 := hz.mp h; have h3 := HKK.out; omega); clear hz hb))
    all_goals
     go_wp2_with fail
     go_roundg kq'
     case measure => omega
     case rel => exact ⟨i, h, rfl, rfl, ⟨by have := HK.out; have := HH.out; omega⟩, HI, ⟨fun y' hy' _ => by
      rw [HY.out] at hy'; injection hy' with e; rw [← e]
      exact lt_of_not κ tag HTG.out (by have h3 := HKK.out; omega)⟩, ⟨HR.out.below HY5.out⟩, ⟨grown_trans HD.out (grown_of_below HY5.out)⟩⟩
  ·have e : i = j := (by omega)
   subst e
   have hq : i - m ≤ R.length := (by have := HB.out; have := HM.out; omega)
   have hsp : R = R.take (i - m) ++ R.drop (i - m) := (List.take_append_drop _ _).symm; have hs2 := HS.out; rw [hsp] at hs2; have hs3 := List.pairwise_append.mp hs2
   have H1 : ∀ y ∈ R.take (i - m), lt κ tag y x := all_lt_of_last hs3.1 (fun z hz => by
    rw [List.getLast?_eq_getElem?, List.length_take, Nat.min_eq_left hq] at hz; by_cases h0 : m < i
    ·rw [List.getElem?_take_of_lt (by omega)] at hz; exact HI.out z hz h0
    ·rw [show i - m = 0 by omega, List.take_zero] at hz
     cases hz)
   have H2 : ∀ y ∈ R.drop (i - m), lt κ tag x y := all_lt_of_head hs3.2.1 (fun z hz => by
    rw [List.head?_eq_getElem?, List.getElem?_drop, Nat.add_zero] at hz
    exact HJ.out z hz (by have := (List.getElem?_eq_some_iff.mp hz).1; have := HB.out; have := HM.out; omega))
   have HFIN : Aside0 ((R.take (i - m) ++ x :: R.drop (i - m)).Perm (x :: R) ∧ Srt κ tag (R.take (i - m) ++ x :: R.drop (i - m))) := ⟨⟨by
    refine (ins_perm _ _ x).trans ?_
    rw [List.take_append_drop], ins_srt hs2 H1 H2⟩⟩
   clear hs2 hs3 H1 H2 hsp hq HI HJ
   obtain ⟨p, hp⟩ : ∃ p, i = p + 1 := ⟨i - 1, by have := HM.out; omega⟩
   have ew : IntKind.i64.wrap ((i : Int) - 1) = (p : Int) := (by rw [i64_w]; unfold wrap64; omega)
   have hap : a ≤ p := (by have := HM.out; have := HA.out; omega)
   have HP := Aside0.mk hp; have HIM := Aside0.mk (And.intro k2 k4); clear hp; go_wp2_with fail
   go_loopg [13] (p - a) (fun kq v13 w' => ∃ k : Nat, v13 = .int .i64 (k : Int) ∧ Aside0 (k + kq = p ∧ a ≤ k) ∧ Aside0 (Row E w' g (X ++ (R.take (k - a) ++ x :: (R.drop (k - a) ++ Y)))) ∧ Aside0 (w.grownBy w' (some g)))
   case atStart => exact ⟨a, rfl, ⟨by omega, Nat.le_refl _⟩, ⟨by rw [Nat.sub_self]; exact HR.out⟩, HD⟩
   case round =>
    clear HR HD; obtain ⟨k, rfl, HQ, HR, HD⟩ := hrel; obtain ⟨q1, q2⟩ := HQ.out; by_cases hkp : k < p
    ·obtain ⟨y, hy⟩ : ∃ y, R[k - a]? = some y := ⟨_, List.getElem?_eq_getElem (by have := HB.out; have := HM.out; have := HA.out; have := HP.out; omega)⟩
     obtain ⟨s1, s2, s3⟩ := mv_right X R Y x a k y HA.out q2 hy; obtain ⟨A1, n1, c1, A2, n2, c2, E1, E2, hx2⟩ := HR.out.pair s1 s2; obtain ⟨⟨x1, x2⟩, f1, f2⟩ := hx2 wr (Below.refl _ _); have HSW := Aside0.mk (HR.out.swap (i := k) (j := k + 1) E1 E2); have HS3 := Aside0.mk s3
     have hkT : k + 1 < T := (by have := HB.out; have := HT.out; have := HP.out; omega)
     have hkT2 : k < T := (by omega)
     have hne : k ≠ k + 1 := (by omega)
     cases gk with
     | zero => exact absurd hkp (by omega)
     | succ kq' =>
     clear s1 s2 s3 hx2 E1 E2 hy q1
     go_upto_region 11 with fail
     go_wp2_with fail
     go_region
     all_goals
      go_wp2_with fail
      go_roundg kq'
      case measure => omega
      case rel => exact ⟨k + 1, by go_num, ⟨by have := HQ.out; omega, by omega⟩, ⟨by rw [← HS3.out]; exact HSW.out.same rfl⟩, ⟨grown_drew (grown_trans HD.out (grown_set2 _ _ _ _ HR.out.lt))⟩⟩
    ·have e : k - a = i - m := (by have := HM.out; have := HA.out; have := HP.out; omega)
     have hR2 := HR.out; rw [e] at hR2; have HF := Aside0.mk hR2; clear e hR2; go_wp2_with fail
     (try simp only [Exit.inBlock, Exit.then])
     refine bodyPost_ret (results_none rfl _ _ _) rfl ?_; exact ⟨rfl, ⟨_, HFIN.out.1, HFIN.out.2, by have h := HF.out; simpa only [List.append_assoc, List.cons_append] using h⟩, HD.out⟩
set_option maxHeartbeats 16000000 in
set_option maxRecDepth 100000 in
/-- One element behind a row. -/
theorem merge_last (κ : α → Int) (tag : α → Nat) (g cap : Nat) (w0 : World) (hC : CmpOK E κ g w0) (T a m b : Nat) (X L Y : List α) (y : α) (w : World) (hL0 : 1 < L.length) (ha : a = X.length) (hm : m = X.length + L.length) (hb : b = X.length + L.length + 1) (hT : T = X.length + L.length + 1 + Y.length) (hbig : T ≤ 1000000) (hW : w0.grownBy w (some g))
  (hs : Srt κ tag L) (ht : ∀ z ∈ L, tag z < tag y) (hR : Row E w g (X ++ (L ++ (y :: Y)))) :
  Calls Try.prog 95 #[.slice (some ⟨g, 0, none⟩) T cap, .int .i64 (a : Int), .int .i64 (m : Int), .int .i64 (b : Int), .func (.func 70) #[] #[]] w fun e w' => e = .returned (.tuple #[]) ∧ (∃ S, S.Perm (L ++ [y]) ∧ Srt κ tag S ∧ Row E w' g (X ++ (S ++ Y))) ∧ w.grownBy w' (some g) := by
 have i1 : IntKind.i64.wrap ((m : Int) - (a : Int)) = ((L.length : Nat) : Int) := (by rw [i64_w]; unfold wrap64; omega)
 have i2 : (((L.length : Nat) : Int) == 1) = false := beq_eq_false_iff_ne.mpr (by omega)
 have i3 : IntKind.i64.wrap ((b : Int) - (m : Int)) = 1 := (by rw [i64_w]; unfold wrap64; omega)
 have HR := Aside0.mk hR; have HA := Aside0.mk ha; have HM := Aside0.mk hm; have HB := Aside0.mk hb; have HT := Aside0.mk hT; have HC := Aside0.mk hC; have HW := Aside0.mk hW; have HS := Aside0.mk hs; have HG := Aside0.mk ht
 have ham : a ≤ m := (by omega)
 have hmt : m ≤ 1000000 := (by omega)
 have HX := Aside0.mk (show (X ++ (L ++ (y :: Y)))[m]? = some y by
  have := get_mid (X ++ L) y Y; rw [List.length_append, ← hm, List.append_assoc] at this
  exact this)
 clear hR hC hW hs ht ha hm hb hT; go_enter Try.func95, Try.ntmps95; go_wp2_with fail; clear i1 i2 i3
 go_loopg [14, 15] (m - a) (fun kq v10 v11 w' => ∃ (i j : Nat), v10 = .int .i64 (i : Int) ∧ v11 = .int .i64 (j : Int) ∧ Aside0 (j - i ≤ kq ∧ a ≤ i ∧ i ≤ j ∧ j ≤ m) ∧ Aside0 (∀ z, L[i - a - 1]? = some z → a < i → lt κ tag z y) ∧ Aside0 (∀ z, L[j - a]? = some z → j < m → lt κ tag y z) ∧ Aside0 (Row E w' g (X ++ (L ++ (y :: Y)))) ∧ Aside0 (w.grownBy w' (some g)))
 case atStart => exact ⟨a, m, rfl, rfl, ⟨Nat.le_refl _, Nat.le_refl _, ham, Nat.le_refl _⟩, ⟨fun y _ h => absurd h (Nat.lt_irrefl _)⟩, ⟨fun y _ h => absurd h (Nat.lt_irrefl _)⟩, HR, ⟨grown_refl _ _⟩⟩
 case round =>
  clear HR; obtain ⟨i, j, rfl, rfl, HK, HI, HJ, HR, HD⟩ := hrel; obtain ⟨k1, k2, k3, k4⟩ := HK.out; by_cases hlt : i < j
  ·obtain ⟨h, hh⟩ : ∃ h, h = (i + j) / 2 := ⟨_, rfl⟩
   have hhi : i ≤ h := (by omega)
   have hhj : h < j := (by omega)
   cases gk with
   | zero => exact absurd hlt (by omega)
   | succ kq' =>
   have hv : ((i : Int) + (j : Int)) / 2 = (h : Int) := (by omega)
   obtain ⟨z, hy⟩ : ∃ z, L[h - a]? = some z := ⟨_, List.getElem?_eq_getElem (by have := HA.out; have := HM.out; omega)⟩
   have hyd : (X ++ (L ++ (y :: Y)))[h]? = some z := get_in X L (y :: Y) (h - a) h z (by have := HA.out; omega) hy; obtain ⟨A2, n2, c2, A1, n1, c1, E2, E1, hx2⟩ := HR.out.pair HX.out hyd; have HX2 := Aside0.mk hx2; have HCC := Aside0.mk (fun (w2 : World) (hb : Below wr.heap.size wr w2) => HC.out w2 y z A2 n2 c2 A1 n1 c1 (grown_trans HW.out (grown_trans HD.out (grown_of_below hb))) E2 E1); have HTG := Aside0.mk (HG.out z (List.mem_of_getElem? hy)); have HY := Aside0.mk hy
   have hhT : h < T := (by have := HM.out; have := HT.out; omega)
   have haT : m < T := (by have := HM.out; have := HT.out; omega)
   have HH := Aside0.mk hh; clear hh hyd hx2 E1 E2 hy; by_cases hκ : κ y < κ z
   ·go_upto_region 17 with fail
    go_wp2_with fail
    go_region_held3 (fun w' => w'.cell? ⟨g, m, none⟩ = some (.slice A2 n2 c2) ∧ w'.cell? ⟨g, h, none⟩ = some (.slice A1 n1 c1)) (first | exact (HX2.out _ (below_drew1 (Below.refl _ _))).1 | exact (HX2.out _ HY5.out).1) (first | (go_simp; go_at_call 70; refine (HCC.out _ (below_drew1 (Below.refl _ _))).mono ?_; rintro e w5 ⟨zz, rfl, hz, hb⟩; have HY5 := Aside0.mk (Kx.below_step (below_drew1 (Below.refl wr.heap.size wr)) hb); have dz : decide (zz < 0) = true := decide_eq_true (hz.mpr hκ); clear hz hb))
    all_goals
     go_wp2_with fail
     go_roundg kq'
     case measure => omega
     case rel => exact ⟨i, h, rfl, rfl, ⟨by have := HK.out; have := HH.out; omega⟩, HI, ⟨fun y' hy' _ => by
      rw [HY.out] at hy'; injection hy' with e; rw [← e]
      exact lt_of κ tag hκ⟩, ⟨HR.out.below HY5.out⟩, ⟨grown_trans HD.out (grown_of_below HY5.out)⟩⟩
   ·have HKK := Aside0.mk (show κ z ≤ κ y by omega); clear hκ
    go_upto_region 17 with fail
    go_wp2_with fail
    go_region_held3 (fun w' => w'.cell? ⟨g, m, none⟩ = some (.slice A2 n2 c2) ∧ w'.cell? ⟨g, h, none⟩ = some (.slice A1 n1 c1)) (first | exact (HX2.out _ (below_drew1 (Below.refl _ _))).1 | exact (HX2.out _ HY5.out).1) (first | (go_simp; go_at_call 70; refine (HCC.out _ (below_drew1 (Below.refl _ _))).mono ?_; rintro e w5 ⟨zz, rfl, hz, hb⟩; have HY5 := Aside0.mk (Kx.below_step (below_drew1 (Below.refl wr.heap.size wr)) hb); have dz : decide (zz < 0) = false := decide_eq_false (fun h => by have h2 := hz.mp h; have h3 := HKK.out; omega); clear hz hb))
    all_goals
     go_wp2_with fail
     go_roundg kq'
     case measure => omega
     case rel => exact ⟨h + 1, j, by go_num, rfl, ⟨by have := HK.out; have := HH.out; omega⟩, ⟨fun y' hy' _ => by
      rw [show h + 1 - a - 1 = h - a by omega, HY.out] at hy'; injection hy' with e; rw [← e]
      exact lt_of_not κ tag HTG.out (by have h3 := HKK.out; omega)⟩, HJ, ⟨HR.out.below HY5.out⟩, ⟨grown_trans HD.out (grown_of_below HY5.out)⟩⟩
  ·have e : i = j := (by omega)
   subst e
   have hq : i - a ≤ L.length := (by have := HA.out; have := HM.out; omega)
   have hsp : L = L.take (i - a) ++ L.drop (i - a) := (List.take_append_drop _ _).symm; have hs2 := HS.out; rw [hsp] at hs2; have hs3 := List.pairwise_append.mp hs2
   have H1 : ∀ z ∈ L.take (i - a), lt κ tag z y := all_lt_of_last hs3.1 (fun z hz => by
    rw [List.getLast?_eq_getElem?, List.length_take, Nat.min_eq_left hq] at hz; by_cases h0 : a < i
    ·rw [List.getElem?_take_of_lt (by omega)] at hz; exact HI.out z hz h0
    ·rw [show i - a = 0 by omega, List.take_zero] at hz
     cases hz)
   have H2 : ∀ z ∈ L.drop (i - a), lt κ tag y z := all_lt_of_head hs3.2.1 (fun z hz => by
    rw [List.head?_eq_getElem?, List.getElem?_drop, Nat.add_zero] at hz
    exact HJ.out z hz (by have := (List.getElem?_eq_some_iff.mp hz).1; have := HA.out; have := HM.out; omega))
   have HFIN : Aside0 ((L.take (i - a) ++ y :: L.drop (i - a)).Perm (L ++ [y]) ∧ Srt κ tag (L.take (i - a) ++ y :: L.drop (i - a))) := ⟨⟨by
    refine (ins_perm _ _ y).trans ?_; rw [List.take_append_drop]
    exact (List.perm_append_singleton y L).symm, ins_srt hs2 H1 H2⟩⟩
   clear hs2 hs3 H1 H2 hsp hq HI HJ; go_wp2_with fail
   go_loopg [17] (m - i) (fun kq v13 w' => ∃ k : Nat, v13 = .int .i64 (k : Int) ∧ Aside0 (k = i + kq ∧ k ≤ m) ∧ Aside0 (Row E w' g (X ++ (L.take (k - a) ++ y :: (L.drop (k - a) ++ Y)))) ∧ Aside0 (w.grownBy w' (some g)))
   case atStart => exact ⟨m, rfl, ⟨by omega, Nat.le_refl _⟩, ⟨by rw [List.take_of_length_le (by have := HA.out; have := HM.out; omega), List.drop_of_length_le (by have := HA.out; have := HM.out; omega), List.nil_append]; exact HR.out⟩, HD⟩
   case round =>
    clear HR HD; obtain ⟨k, rfl, HQ, HR, HD⟩ := hrel; obtain ⟨q1, q2⟩ := HQ.out; by_cases hkp : i < k
    ·obtain ⟨p, hp⟩ : ∃ p, k = p + 1 := ⟨k - 1, by omega⟩
     obtain ⟨z, hy⟩ : ∃ z, L[p - a]? = some z := ⟨_, List.getElem?_eq_getElem (by have := HA.out; have := HM.out; omega)⟩
     obtain ⟨s1, s2, s3⟩ := mv_left X L Y y a p z HA.out (by omega) hy; rw [← hp] at s1 s2 s3; obtain ⟨A1, n1, c1, A2, n2, c2, E1, E2, hx2⟩ := HR.out.pair s2 s1; obtain ⟨⟨x1, x2⟩, f1, f2⟩ := hx2 wr (Below.refl _ _); have HSW := Aside0.mk (HR.out.swap (i := k) (j := p) E1 E2); have HS3 := Aside0.mk s3
     have hkT : k < T := (by have := HM.out; have := HT.out; omega)
     have hkT2 : p < T := (by omega)
     have hne : p ≠ k := (by omega)
     have ew : IntKind.i64.wrap ((k : Int) - 1) = (p : Int) := (by rw [i64_w]; unfold wrap64; omega)
     have HPP := Aside0.mk hp
     cases gk with
     | zero => exact absurd hkp (by omega)
     | succ kq' =>
     clear s1 s2 s3 hx2 E1 E2 hy q1 hp
     go_upto_region 23 with fail
     go_wp2_with fail
     go_region
     all_goals
      go_wp2_with fail
      go_roundg kq'
      case measure => omega
      case rel => exact ⟨p, rfl, ⟨by have := HQ.out; have := HPP.out; omega, by have := HQ.out; have := HPP.out; omega⟩, ⟨by rw [← HS3.out]; exact HSW.out.same rfl⟩, ⟨grown_drew (grown_trans HD.out (grown_set2 _ _ _ _ HR.out.lt))⟩⟩
    ·have e : k = i := (by omega)
     have hR2 := HR.out; rw [e] at hR2; have HF := Aside0.mk hR2; clear e hR2 q1; go_wp2_with fail
     (try simp only [Exit.inBlock, Exit.then])
     refine bodyPost_ret (results_none rfl _ _ _) rfl ?_; exact ⟨rfl, ⟨_, HFIN.out.1, HFIN.out.2, by have h := HF.out; simpa only [List.append_assoc, List.cons_append] using h⟩, HD.out⟩
end Go.Proofs.Ytahcpappailjgaa.SortW

set_option linter.unusedVariables false
set_option linter.unusedSimpArgs false
namespace Go.Proofs.Ytahcpappailjgaa.SortW
open Go Go.RowKit Go.Proofs.Ytahcpappailjgaa Go.Proofs.YtahcpappailjgaaW.PrintWords Go.Proofs.YtahcpappailjgaaW.PrintLast Go.Proofs.YtahcpappailjgaaW.PrintMore
open Go.Proofs.Ytahcpappailjgaa.SortP
variable {α : Type} {E : Ent α}
/-- The two rows, cut where the search has ended. -/
theorem sym_cut (κ : α → Int) (tag : α → Nat) (L R : List α) (a m b mid n p s0 r0 s e : Nat) (hm : m = a + L.length) (hb : b = m + R.length) (hmid : mid = (a + b) / 2) (hn : n = mid + m) (hp : n = p + 1) (h0 : (mid < m ∧ s0 + b = n ∧ r0 = mid) ∨ (m ≤ mid ∧ s0 = a ∧ r0 = m)) (h1 : s0 ≤ s) (h2 : s ≤ r0) (he : n = e + s)
  (hsl : Srt κ tag L) (hsr : Srt κ tag R) (hI : ∀ x y, s0 < s → L[s - 1 - a]? = some x → R[n - s - m]? = some y → lt κ tag x y) (hJ : ∀ x y, s < r0 → R[p - s - m]? = some y → L[s - a]? = some x → lt κ tag y x) :
  ∃ L1 L2 R1 R2 : List α, L = L1 ++ L2 ∧ R = R1 ++ R2 ∧ L1.length = s - a ∧ L2.length = m - s ∧ R1.length = e - m ∧ R2.length = b - e ∧ (∀ x ∈ L1 ++ R1, ∀ y ∈ L2 ++ R2, lt κ tag x y) ∧ a ≤ s ∧ s ≤ m ∧ m ≤ e ∧ e ≤ b ∧ s ≤ mid ∧ mid ≤ e := by
 have q : a ≤ s ∧ s ≤ m ∧ m ≤ e ∧ e ≤ b ∧ s ≤ mid ∧ mid ≤ e := (by omega)
 obtain ⟨q1, q2, q3, q4, q5, q6⟩ := q; have eL : L = L.take (s - a) ++ L.drop (s - a) := (List.take_append_drop _ _).symm; have eR : R = R.take (e - m) ++ R.drop (e - m) := (List.take_append_drop _ _).symm; refine ⟨L.take (s - a), L.drop (s - a), R.take (e - m), R.drop (e - m), eL, eR, by rw [List.length_take]; omega, by rw [List.length_drop]; omega, by rw [List.length_take]; omega, by rw [List.length_drop]; omega, sym_lt (by rw [← eL]; exact hsl) (by rw [← eR]; exact hsr) (fun x y hx hy => ?_) (fun y x hy hx => ?_), q1, q2, q3, q4, q5, q6⟩
 ·rw [List.getLast?_eq_getElem?, List.length_take, Nat.min_eq_left (by omega)] at hx; rw [List.head?_eq_getElem?, List.getElem?_drop, Nat.add_zero] at hy; have hyl := (List.getElem?_eq_some_iff.mp hy).1; by_cases c : s = a
  ·rw [c, Nat.sub_self, List.take_zero] at hx
   cases hx
  ·rw [List.getElem?_take_of_lt (by omega)] at hx; exact hI x y (by omega) (by rw [show s - 1 - a = s - a - 1 by omega]; exact hx) (by rw [show n - s - m = e - m by omega]; exact hy)
 ·rw [List.getLast?_eq_getElem?, List.length_take, Nat.min_eq_left (by omega)] at hy; rw [List.head?_eq_getElem?, List.getElem?_drop, Nat.add_zero] at hx; have hxl := (List.getElem?_eq_some_iff.mp hx).1; by_cases c : e = m
  ·rw [c, Nat.sub_self, List.take_zero] at hy
   cases hy
  ·rw [List.getElem?_take_of_lt (by omega)] at hy; exact hJ x y (by omega) (by rw [show p - s - m = e - m - 1 by omega]; exact hy) hx
set_option maxHeartbeats 16000000 in
set_option maxRecDepth 100000 in
theorem merge_step (κ : α → Int) (tag : α → Nat) (g cap : Nat) (w0 : World) (hC : CmpOK E κ g w0) (N : Nat) (IH : MergeOK E κ tag g cap w0 N) (T a m b : Nat) (X L R Y : List α) (w : World) (hN : b ≤ a + (N + 1)) (hL0 : 1 < L.length) (hR0 : 1 < R.length) (ha : a = X.length) (hm : m = X.length + L.length) (hb : b = X.length + L.length + R.length) (hT : T = X.length + L.length + R.length + Y.length) (hbig : T ≤ 1000000) (hW : w0.grownBy w (some g))
  (hsl : Srt κ tag L) (hsr : Srt κ tag R) (ht : ∀ x ∈ L, ∀ y ∈ R, tag x < tag y) (hR : Row E w g (X ++ (L ++ (R ++ Y)))) :
  Calls Try.prog 95 #[.slice (some ⟨g, 0, none⟩) T cap, .int .i64 (a : Int), .int .i64 (m : Int), .int .i64 (b : Int), .func (.func 70) #[] #[]] w fun e w' => e = .returned (.tuple #[]) ∧ (∃ S, S.Perm (L ++ R) ∧ Srt κ tag S ∧ Row E w' g (X ++ (S ++ Y))) ∧ w.grownBy w' (some g) := by
 have i1 : IntKind.i64.wrap ((m : Int) - (a : Int)) = ((L.length : Nat) : Int) := (by rw [i64_w]; unfold wrap64; omega)
 have i2 : (((L.length : Nat) : Int) == 1) = false := beq_eq_false_iff_ne.mpr (by omega)
 have i3 : IntKind.i64.wrap ((b : Int) - (m : Int)) = ((R.length : Nat) : Int) := (by rw [i64_w]; unfold wrap64; omega)
 have i4 : (((R.length : Nat) : Int) == 1) = false := beq_eq_false_iff_ne.mpr (by omega)
 obtain ⟨mid, hmid⟩ : ∃ mid, mid = (a + b) / 2 := ⟨_, rfl⟩
 obtain ⟨n, hn⟩ : ∃ n, n = mid + m := ⟨_, rfl⟩
 obtain ⟨p, hp⟩ : ∃ p, n = p + 1 := ⟨n - 1, by omega⟩
 obtain ⟨s0, r0, hsr0⟩ : ∃ s0 r0 : Nat, (mid < m ∧ s0 + b = n ∧ r0 = mid) ∨ (m ≤ mid ∧ s0 = a ∧ r0 = m) := by
  by_cases h : mid < m
  ·exact ⟨n - b, mid, .inl ⟨h, by omega, rfl⟩⟩
  ·exact ⟨a, m, .inr ⟨by omega, rfl, rfl⟩⟩
 have v1 : ((a : Int) + (b : Int)) / 2 = (mid : Int) := (by omega)
 have v2 : IntKind.i64.wrap ((mid : Int) + (m : Int)) = (n : Int) := (by rw [i64_w]; unfold wrap64; omega)
 have v3 : IntKind.i64.wrap ((n : Int) - 1) = (p : Int) := (by rw [i64_w]; unfold wrap64; omega)
 have ham : a < m := (by omega)
 have hmb : m < b := (by omega)
 have hbt : b ≤ 1000000 := (by omega)
 have hmd : mid ≤ 1000000 := (by omega)
 have hnb : n ≤ 2000000 := (by omega)
 have hpb : p ≤ 2000000 := (by omega)
 have hs0b : s0 ≤ 1000000 := (by omega)
 have hr0b : r0 ≤ 1000000 := (by omega)
 have hsq : s0 ≤ r0 ∧ a ≤ s0 ∧ r0 ≤ m ∧ r0 ≤ mid ∧ n ≤ s0 + b := (by omega)
 have HR := Aside0.mk hR; have HA := Aside0.mk ha; have HM := Aside0.mk hm; have HB := Aside0.mk hb; have HT := Aside0.mk hT; have HC := Aside0.mk hC; have HW := Aside0.mk hW; have HSL := Aside0.mk hsl; have HSR := Aside0.mk hsr; have HG := Aside0.mk ht; have HIH := Aside0.mk IH; have HN := Aside0.mk hN; have HMID := Aside0.mk hmid; have HNN := Aside0.mk (And.intro hn hp); have H0 := Aside0.mk hsr0; have HSR0 := Aside0.mk hsq; clear hsq hR hC hW hsl hsr ht ha hm hb hT IH hN hmid hn hp; go_enter Try.func95, Try.ntmps95
 go_upto_if 140 with fail
 (try simp only [Act.put, List.setIfInBounds_toArray, List.set_cons_zero, List.set_cons_succ])
 go_cut [20, 21] (fun v20 v21 wc => v20 = .int .i64 (s0 : Int) ∧ v21 = .int .i64 (r0 : Int) ∧ wc = w)
 case first =>
  rcases hsr0 with ⟨h1, h2, h3⟩ | ⟨h1, h2, h3⟩
  ·have d1 : decide ((m : Int) > (mid : Int)) = true := decide_eq_true (by omega)
   have e1 : IntKind.i64.wrap ((n : Int) - (b : Int)) = (s0 : Int) := (by rw [i64_w]; unfold wrap64; omega)
   have HH := Aside0.mk h3; clear h2 h3; go_wp2_with fail
   go_meet
   case rel => exact ⟨rfl, by rw [HH.out], rfl⟩
  ·have d1 : decide ((m : Int) > (mid : Int)) = false := decide_eq_false (by omega); have HH := Aside0.mk (And.intro h2 h3); clear h2 h3; go_wp2_with fail
   go_meet
   case rel => exact ⟨by rw [HH.out.1], by rw [HH.out.2], rfl⟩
 case rest =>
  clear hsr0 i1 i2 i3 i4 v1 v2; obtain ⟨rfl, rfl, hw⟩ := hcut; have hw2 := hw.symm; subst hw2; clear hw; go_wp2_with fail
  go_loopg [20, 21] (r0 - s0) (fun kq v20 v21 w' => ∃ (s r : Nat), v20 = .int .i64 (s : Int) ∧ v21 = .int .i64 (r : Int) ∧ Aside0 (r - s ≤ kq ∧ s0 ≤ s ∧ s ≤ r ∧ r ≤ r0) ∧ Aside0 (∀ x y, s0 < s → L[s - 1 - a]? = some x → R[n - s - m]? = some y → lt κ tag x y) ∧ Aside0 (∀ x y, r < r0 → R[p - r - m]? = some y → L[r - a]? = some x → lt κ tag y x) ∧ Aside0 (Row E w' g (X ++ (L ++ (R ++ Y)))) ∧ Aside0 (w.grownBy w' (some g)))
  case atStart => exact ⟨s0, r0, rfl, rfl, ⟨Nat.le_refl _, Nat.le_refl _, HSR0.out.1, Nat.le_refl _⟩, ⟨fun x y h => absurd h (Nat.lt_irrefl _)⟩, ⟨fun x y h => absurd h (Nat.lt_irrefl _)⟩, HR, ⟨grown_refl _ _⟩⟩
  case round =>
   clear HR; obtain ⟨s, r, rfl, rfl, HK, HI, HJ, HR, HD⟩ := hrel; obtain ⟨k1, k2, k3, k4⟩ := HK.out
   have hsb : s ≤ 1000000 := (by omega)
   have hrb : r ≤ 1000000 := (by omega)
   by_cases hlt : s < r
   ·as_aux_lemma =>
     obtain ⟨c, hc⟩ : ∃ c, c = (s + r) / 2 := ⟨_, rfl⟩
     obtain ⟨q, hq⟩ : ∃ q, p = q + c := ⟨p - c, by have := HNN.out; have := HSR0.out; omega⟩
     have hv : ((s : Int) + (r : Int)) / 2 = (c : Int) := (by omega)
     have hv2 : IntKind.i64.wrap ((p : Int) - (c : Int)) = (q : Int) := (by rw [i64_w]; unfold wrap64; omega)
     have hcs : s ≤ c := (by omega)
     have hcr : c < r := (by omega)
     obtain ⟨x, hx⟩ : ∃ x, L[c - a]? = some x := ⟨_, List.getElem?_eq_getElem (by have := HA.out; have := HM.out; have := HSR0.out; omega)⟩
     obtain ⟨y, hy⟩ : ∃ y, R[q - m]? = some y := ⟨_, List.getElem?_eq_getElem (by have := HB.out; have := HM.out; have := HSR0.out; have := HNN.out; omega)⟩
     have hxd : (X ++ (L ++ (R ++ Y)))[c]? = some x := get_in X L (R ++ Y) (c - a) c x (by have := HA.out; have := HSR0.out; omega) hx
     have hyd : (X ++ (L ++ (R ++ Y)))[q]? = some y := by
      have := get_in (X ++ L) R Y (q - m) q y (by rw [List.length_append]; have := HM.out; have := HSR0.out; have := HNN.out; omega) hy
      rwa [List.append_assoc] at this
     obtain ⟨A1, n1, c1, A2, n2, c2, E1, E2, hx2⟩ := HR.out.pair hyd hxd; have HX2 := Aside0.mk hx2; have HCC := Aside0.mk (fun (w2 : World) (hb : Below wr.heap.size wr w2) => HC.out w2 y x A1 n1 c1 A2 n2 c2 (grown_trans HW.out (grown_trans HD.out (grown_of_below hb))) E1 E2); have HTG := Aside0.mk (HG.out x (List.mem_of_getElem? hx) y (List.mem_of_getElem? hy)); have HXY := Aside0.mk (And.intro hx hy)
     have hqT : q < T := (by have := HB.out; have := HT.out; have := HNN.out; have := HSR0.out; omega)
     have hcT : c < T := (by have := HB.out; have := HT.out; have := HSR0.out; omega)
     have HH := Aside0.mk (And.intro hc hq)
     cases gk with
     | zero => exact absurd hlt (by omega)
     | succ kq' =>
     clear hc hq hxd hyd hx2 E1 E2 hx hy; by_cases hκ : κ y < κ x
     ·go_upto_region 35 with fail
      go_wp2_with fail
      go_region_held3 (fun w' => w'.cell? ⟨g, q, none⟩ = some (.slice A1 n1 c1) ∧ w'.cell? ⟨g, c, none⟩ = some (.slice A2 n2 c2)) (first | exact (HX2.out _ (below_drew1 (Below.refl _ _))).1 | exact (HX2.out _ HY5.out).1) (first | (go_simp; go_at_call 70; refine (HCC.out _ (below_drew1 (Below.refl _ _))).mono ?_; rintro e w5 ⟨zz, rfl, hz, hb⟩; have HY5 := Aside0.mk (Kx.below_step (below_drew1 (Below.refl wr.heap.size wr)) hb); have dz : decide (zz < 0) = true := decide_eq_true (hz.mpr hκ); clear hz hb))
      all_goals
       go_wp2_with fail
       go_roundg kq'
       case measure => omega
       case rel => exact ⟨s, c, rfl, rfl, ⟨by have := HK.out; have := HH.out; omega⟩, HI, ⟨fun x' y' _ hy' hx' => by
        rw [show p - c - m = q - m by have := HH.out; omega, HXY.out.2] at hy'; rw [HXY.out.1] at hx'; injection hy' with e; injection hx' with e'; rw [← e, ← e']
        exact lt_of κ tag hκ⟩, ⟨HR.out.below HY5.out⟩, ⟨grown_trans HD.out (grown_of_below HY5.out)⟩⟩
     ·have HKK := Aside0.mk (show κ x ≤ κ y by omega); clear hκ
      go_upto_region 35 with fail
      go_wp2_with fail
      go_region_held3 (fun w' => w'.cell? ⟨g, q, none⟩ = some (.slice A1 n1 c1) ∧ w'.cell? ⟨g, c, none⟩ = some (.slice A2 n2 c2)) (first | exact (HX2.out _ (below_drew1 (Below.refl _ _))).1 | exact (HX2.out _ HY5.out).1) (first | (go_simp; go_at_call 70; refine (HCC.out _ (below_drew1 (Below.refl _ _))).mono ?_; rintro e w5 ⟨zz, rfl, hz, hb⟩; have HY5 := Aside0.mk (Kx.below_step (below_drew1 (Below.refl wr.heap.size wr)) hb); have dz : decide (zz < 0) = false := decide_eq_false (fun h => by have h2 := hz.mp h; have h3 := HKK.out; omega); clear hz hb))
      all_goals
       go_wp2_with fail
       go_roundg kq'
       case measure => omega
       case rel => exact ⟨c + 1, r, by go_num, rfl, ⟨by have := HK.out; have := HH.out; omega⟩, ⟨fun x' y' _ hx' hy' => by
        rw [show n - (c + 1) - m = q - m by have := HH.out; have := HNN.out; omega, HXY.out.2] at hy'; rw [show c + 1 - 1 - a = c - a by omega, HXY.out.1] at hx'; injection hy' with e; injection hx' with e'; rw [← e, ← e']
        exact lt_of_not κ tag HTG.out (by have h3 := HKK.out; omega)⟩, HJ, ⟨HR.out.below HY5.out⟩, ⟨grown_trans HD.out (grown_of_below HY5.out)⟩⟩
   ·have e0 : s = r := (by omega)
    subst e0
    obtain ⟨e, he⟩ : ∃ e, n = e + s := ⟨n - s, by have := HNN.out; have := HSR0.out; omega⟩
    have ve : IntKind.i64.wrap ((n : Int) - (s : Int)) = (e : Int) := (by rw [i64_w]; unfold wrap64; omega)
    obtain ⟨L1, L2, R1, R2, hL12, hR12, l1, l2, l3, l4, hlt2, q1, q2, q3, q4, q5, q6⟩ := sym_cut κ tag L R a m b mid n p s0 r0 s e (by have := HA.out; have := HM.out; omega) (by have := HB.out; have := HM.out; omega) HMID.out HNN.out.1 HNN.out.2 H0.out k2 k4 he HSL.out HSR.out HI.out HJ.out; subst hL12 hR12; have HLN := Aside0.mk (And.intro l1 (And.intro l2 (And.intro l3 l4))); have HLT := Aside0.mk hlt2; have HE := Aside0.mk he
    have heb : e ≤ 1000000 := (by omega)
    have hR2 := HR.out; simp only [List.append_assoc] at hR2; have HR2 := Aside0.mk hR2; have HSL2 := Aside0.mk (List.pairwise_append.mp HSL.out); have HSR2 := Aside0.mk (List.pairwise_append.mp HSR.out); have HAT := Aside0.mk (show a = X.length ∧ T = X.length + L1.length + L2.length + R1.length + R2.length + Y.length by have := HA.out; have := HT.out; simp only [List.length_append] at this; omega); clear l1 l2 l3 l4 hlt2 he hR2 HI HJ HR hlt HSL HSR k1 k2 k3 k4
    go_upto_region 39 with fail
    (try simp only [Act.put, List.setIfInBounds_toArray, List.set_cons_zero, List.set_cons_succ])
    go_cut [185] (fun v185 w2 => v185 = .bool (decide (s < m ∧ m < e)) ∧ w2 = wr)
    case first =>
     as_aux_lemma =>
      by_cases hc1 : s < m
      ·by_cases hc2 : m < e
       ·have HQ := Aside0.mk (show decide (s < m ∧ m < e) = true from decide_eq_true ⟨hc1, hc2⟩); go_wp2_with fail
        go_meet
        case rel => exact ⟨by rw [HQ.out], rfl⟩
       ·have HQ := Aside0.mk (show decide (s < m ∧ m < e) = false from decide_eq_false (fun h => hc2 h.2)); go_wp2_with fail
        go_meet
        case rel => exact ⟨by rw [HQ.out], rfl⟩
      ·have HQ := Aside0.mk (show decide (s < m ∧ m < e) = false from decide_eq_false (fun h => hc1 h.1)); go_wp2_with fail
       go_meet
       case rel => exact ⟨by rw [HQ.out], rfl⟩
    case rest =>
    obtain ⟨rfl, hw⟩ := hcut; have hw2 := hw.symm; subst hw2; clear hw
    go_upto_if 185 with fail
    (try simp only [Act.put, List.setIfInBounds_toArray, List.set_cons_zero, List.set_cons_succ])
    go_cut [24] (fun v24 w2 => v24 = .int .i64 (e : Int) ∧ Aside0 (Row E w2 g (X ++ (L1 ++ (R1 ++ (L2 ++ (R2 ++ Y)))))) ∧ Aside0 (w.grownBy w2 (some g)))
    case first =>
     as_aux_lemma =>
      by_cases hc : s < m ∧ m < e
      ·have dc : decide (s < m ∧ m < e) = true := decide_eq_true hc; rw [dc]; have HC1 := Aside0.mk (rotate_ok (E := E) g cap T s m e (.func (.func 70) #[] #[]) (X ++ L1) L2 R1 (R2 ++ Y) (by have := HLN.out; omega) (by have := HLN.out; omega) (by rw [List.length_append]; have := HLN.out; have := HAT.out; omega) (by rw [List.length_append]; have := HLN.out; have := HAT.out; omega) (by rw [List.length_append]; have := HLN.out; have := HAT.out; omega) (by rw [List.length_append, List.length_append]; have := HAT.out; omega) hbig _ (by rw [List.append_assoc]; exact HR2.out)); clear dc hc
       go_wp2_with (go_at_call 96; refine HC1.out.mono ?_; rintro e w5 ⟨rfl, h5, g5⟩; have HR5 := Aside0.mk h5; have HG5 := Aside0.mk (grown_trans HD.out g5); clear h5 g5)
       go_meet
       case rel => exact ⟨rfl, ⟨by have h := HR5.out; rw [List.append_assoc] at h; exact h⟩, HG5⟩
      ·have dc : decide (s < m ∧ m < e) = false := decide_eq_false hc; rw [dc]
       have hz : L2 = [] ∨ R1 = [] := by
        by_cases hc1 : s < m
        ·exact .inr (List.length_eq_zero_iff.mp (by have := HLN.out; omega))
        ·exact .inl (List.length_eq_zero_iff.mp (by have := HLN.out; omega))
       have HZ := Aside0.mk (show X ++ (L1 ++ (L2 ++ (R1 ++ (R2 ++ Y)))) = X ++ (L1 ++ (R1 ++ (L2 ++ (R2 ++ Y)))) by rcases hz with h | h <;> rw [h] <;> rfl); clear hz dc hc; go_wp2_with fail
       go_meet
       case rel => exact ⟨rfl, ⟨by rw [← HZ.out]; exact HR2.out⟩, HD⟩
    case rest =>
     clear HR2 HD; obtain ⟨rfl, HR2, HD⟩ := hcut
     have HS1 : Aside0 (Srt κ tag L1 ∧ Srt κ tag R1 ∧ Srt κ tag L2 ∧ Srt κ tag R2) := ⟨HSL2.out.1, HSR2.out.1, HSL2.out.2.1, HSR2.out.2.1⟩
     go_upto_region 41 with fail
     (try simp only [Act.put, List.setIfInBounds_toArray, List.set_cons_zero, List.set_cons_succ])
     go_cut [199] (fun v199 w2 => v199 = .bool (decide (a < s ∧ s < mid)) ∧ Aside0 (Row E w2 g (X ++ (L1 ++ (R1 ++ (L2 ++ (R2 ++ Y)))))) ∧ Aside0 (w.grownBy w2 (some g)))
     case first =>
      as_aux_lemma =>
       by_cases hc1 : a < s
       ·by_cases hc2 : s < mid
        ·have HQ := Aside0.mk (show decide (a < s ∧ s < mid) = true from decide_eq_true ⟨hc1, hc2⟩); go_wp2_with fail
         go_meet
         case rel => exact ⟨by rw [HQ.out], HR2, HD⟩
        ·have HQ := Aside0.mk (show decide (a < s ∧ s < mid) = false from decide_eq_false (fun h => hc2 h.2)); go_wp2_with fail
         go_meet
         case rel => exact ⟨by rw [HQ.out], HR2, HD⟩
       ·have HQ := Aside0.mk (show decide (a < s ∧ s < mid) = false from decide_eq_false (fun h => hc1 h.1)); go_wp2_with fail
        go_meet
        case rel => exact ⟨by rw [HQ.out], HR2, HD⟩
     case rest =>
     clear HR2 HD; obtain ⟨rfl, HR2, HD⟩ := hcut
     go_upto_if 199 with fail
     (try simp only [Act.put, List.setIfInBounds_toArray, List.set_cons_zero, List.set_cons_succ])
     go_cut [24] (fun v24 w2 => v24 = .int .i64 (e : Int) ∧ ∃ S1 : List α, Aside0 (S1.Perm (L1 ++ R1) ∧ Srt κ tag S1) ∧ Aside0 (Row E w2 g (X ++ (S1 ++ (L2 ++ (R2 ++ Y))))) ∧ Aside0 (w.grownBy w2 (some g)))
     case first =>
      as_aux_lemma =>
       by_cases hc : a < s ∧ s < mid
       ·have dc : decide (a < s ∧ s < mid) = true := decide_eq_true hc; rw [dc]; have HC1 := Aside0.mk (HIH.out T a s mid X L1 R1 (L2 ++ (R2 ++ Y)) _ (by have := HN.out; have := HMID.out; omega) (by have := HLN.out; omega) (by have := HLN.out; have := HE.out; have := HNN.out; omega) HAT.out.1 (by have := HLN.out; have := HAT.out; omega) (by have := HLN.out; have := HAT.out; have := HE.out; have := HNN.out; omega) (by simp only [List.length_append]; have := HAT.out; omega) hbig (grown_trans HW.out HD.out) HS1.out.1 HS1.out.2.1 (fun x hx y hy => HG.out x (List.mem_append_left _ hx) y (List.mem_append_left _ hy)) HR2.out); clear dc hc
        go_wp2_with (go_at_call 95; refine HC1.out.mono ?_; rintro e w5 ⟨rfl, ⟨S1, p1, s1, h5⟩, g5⟩; have HR5 := Aside0.mk h5; have HP5 := Aside0.mk (And.intro p1 s1); have HG5 := Aside0.mk (grown_trans HD.out g5); clear h5 g5 p1 s1)
        go_meet
        case rel => exact ⟨rfl, S1, HP5, HR5, HG5⟩
       ·have dc : decide (a < s ∧ s < mid) = false := decide_eq_false hc; rw [dc]
        have hz : Srt κ tag (L1 ++ R1) := by
         by_cases hc1 : a < s
         ·rw [show R1 = [] from List.length_eq_zero_iff.mp (by have := HLN.out; have := HE.out; have := HNN.out; omega), List.append_nil]; exact HS1.out.1
         ·rw [show L1 = [] from List.length_eq_zero_iff.mp (by have := HLN.out; omega), List.nil_append]; exact HS1.out.2.1
        have HZ := Aside0.mk hz; clear hz dc hc; go_wp2_with fail
        go_meet
        case rel => exact ⟨rfl, L1 ++ R1, ⟨List.Perm.refl _, HZ.out⟩, ⟨by rw [List.append_assoc]; exact HR2.out⟩, HD⟩
     case rest =>
     clear HR2 HD; obtain ⟨rfl, S1, HP1, HR3, HD⟩ := hcut
     have hl1 : S1.length = mid - a := (by rw [HP1.out.1.length_eq, List.length_append]; have := HLN.out; have := HE.out; have := HNN.out; omega)
     have HL1 := Aside0.mk hl1
     have hz2 : ¬ (mid < e ∧ e < b) → Srt κ tag (L2 ++ R2) := fun hc => by
      by_cases hc1 : mid < e
      ·rw [show R2 = [] from List.length_eq_zero_iff.mp (by have := HLN.out; omega), List.append_nil]; exact HS1.out.2.2.1
      ·rw [show L2 = [] from List.length_eq_zero_iff.mp (by have := HLN.out; have := HE.out; have := HNN.out; omega), List.nil_append]; exact HS1.out.2.2.2
     have HZ2 := Aside0.mk (fun hc => sym_join HP1.out.1 (List.Perm.refl (L2 ++ R2)) HP1.out.2 (hz2 hc) HLT.out); clear hz2 hl1; by_cases hc1 : mid < e
     ·by_cases hc2 : e < b
      ·have HC1 := Aside0.mk (HIH.out T mid e b (X ++ S1) L2 R2 Y _ (by have := HN.out; have := HMID.out; omega) (by have := HLN.out; have := HE.out; have := HNN.out; omega) (by have := HLN.out; omega) (by rw [List.length_append]; have := HL1.out; have := HAT.out; omega) (by rw [List.length_append]; have := HL1.out; have := HLN.out; have := HAT.out; have := HE.out; have := HNN.out; omega) (by rw [List.length_append]; have := HL1.out; have := HLN.out; have := HAT.out; have := HE.out; have := HNN.out; omega) (by rw [List.length_append]; have := HL1.out; have := HLN.out; have := HAT.out; have := HE.out; have := HNN.out; omega) hbig (grown_trans HW.out HD.out) HS1.out.2.2.1 HS1.out.2.2.2 (fun x hx y hy => HG.out x (List.mem_append_right _ hx) y (List.mem_append_right _ hy)) (by rw [List.append_assoc]; exact HR3.out))
       go_wp2_with (go_at_call 95; refine HC1.out.mono ?_; rintro e w5 ⟨rfl, ⟨S2, p2, s2, h5⟩, g5⟩; have HR5 := Aside0.mk h5; have HP5 := Aside0.mk (sym_join HP1.out.1 p2 HP1.out.2 s2 HLT.out); have HG5 := Aside0.mk (grown_trans HD.out g5); clear h5 g5 p2 s2)
       go_end0; exact ⟨rfl, ⟨S1 ++ S2, HP5.out.2, HP5.out.1, by have h := HR5.out; rw [List.append_assoc] at h; rw [List.append_assoc]; exact h⟩, HG5.out⟩
      ·have HF := Aside0.mk (HZ2.out (fun h => hc2 h.2)); go_wp2_with fail; go_end0; exact ⟨rfl, ⟨S1 ++ (L2 ++ R2), HF.out.2, HF.out.1, by have h := HR3.out; simpa only [List.append_assoc] using h⟩, HD.out⟩
     ·have HF := Aside0.mk (HZ2.out (fun h => hc1 h.1)); go_wp2_with fail; go_end0; exact ⟨rfl, ⟨S1 ++ (L2 ++ R2), HF.out.2, HF.out.1, by have h := HR3.out; simpa only [List.append_assoc] using h⟩, HD.out⟩
end Go.Proofs.Ytahcpappailjgaa.SortW

set_option linter.unusedVariables false
namespace Go.Proofs.Ytahcpappailjgaa.SortP
variable {α : Type}
/-! ### blocks in order -/
section
variable {κ : α → Int} {tag : α → Nat}
/-- Blocks of k elements, each in order, that stand for the other list's; the last one may be shorter. -/
inductive Bl (κ : α → Int) (tag : α → Nat) (k : Nat) : List α → List α → Prop where
 | nil : Bl κ tag k [] []
 | last {S S' : List α} : S.length ≤ k → S.Perm S' → Srt κ tag S → Bl κ tag k S S'
 | cons {S S' Q Q' : List α} : S.length = k → S.Perm S' → Srt κ tag S → Bl κ tag k Q Q' → Bl κ tag k (S ++ Q) (S' ++ Q')
inductive Fl (κ : α → Int) (tag : α → Nat) (k : Nat) : List α → List α → Prop where
 | nil : Fl κ tag k [] []
 | snoc {P P' S S' : List α} : Fl κ tag k P P' → S.length = k → S.Perm S' → Srt κ tag S → Fl κ tag k (P ++ S) (P' ++ S')
theorem Fl.app {k : Nat} {P P' : List α} (h : Fl κ tag k P P') : ∀ {Q Q' : List α}, Bl κ tag k Q Q' → Bl κ tag k (P ++ Q) (P' ++ Q') := by
 induction h with
 | nil => intro Q Q' hb; exact hb
 | snoc h1 h2 h3 h4 ih =>
  intro Q Q' hb; rw [List.append_assoc, List.append_assoc]; exact ih (.cons h2 h3 h4 hb)
theorem Fl.len {k : Nat} {P P' : List α} (h : Fl κ tag k P P') : P.length = P'.length := by
 induction h with
 | nil => rfl
 | snoc h1 h2 h3 h4 ih => rw [List.length_append, List.length_append, ih, h3.length_eq]
theorem Bl.len {k : Nat} {P P' : List α} (h : Bl κ tag k P P') : P.length = P'.length := by
 induction h with
 | nil => rfl
 | last h1 h2 h3 => exact h2.length_eq
 | cons h1 h2 h3 h4 ih => rw [List.length_append, List.length_append, ih, h2.length_eq]
/-- One block alone. -/
theorem Bl.one {k : Nat} {Q Q' : List α} (h : Bl κ tag k Q Q') (hk : Q.length ≤ k) (hk0 : 0 < k) : Q.Perm Q' ∧ Srt κ tag Q := by
 cases h with
 | nil => exact ⟨List.Perm.refl _, List.Pairwise.nil⟩
 | last h1 h2 h3 => exact ⟨h2, h3⟩
 | cons h1 h2 h3 h4 =>
  rename_i S S' R R'
  rw [List.length_append] at hk; have hz : R = [] := List.length_eq_zero_iff.mp (by omega); have hz' : R' = [] := List.length_eq_zero_iff.mp (by rw [← h4.len, hz]; rfl); rw [hz, hz', List.append_nil, List.append_nil]; exact ⟨h2, h3⟩
/-- The first block and what is behind it. -/
theorem Bl.first {k : Nat} {Q Q' : List α} (h : Bl κ tag k Q Q') (hk : k ≤ Q.length) : ∃ S S' R R', Q = S ++ R ∧ Q' = S' ++ R' ∧ S.length = k ∧ S.Perm S' ∧ Srt κ tag S ∧ Bl κ tag k R R' := by
 cases h with
 | nil =>
  have e : k = 0 := (by simpa using hk)
  exact ⟨[], [], [], [], rfl, rfl, by rw [e]; rfl, List.Perm.refl _, List.Pairwise.nil, .nil⟩
 | last h1 h2 h3 => exact ⟨Q, Q', [], [], (List.append_nil _).symm, (List.append_nil _).symm, by omega, h2, h3, .nil⟩
 | cons h1 h2 h3 h4 => exact ⟨_, _, _, _, rfl, rfl, h1, h2, h3, h4⟩
end
end Go.Proofs.Ytahcpappailjgaa.SortP

set_option linter.unusedVariables false
set_option linter.unusedSimpArgs false
namespace Go.Proofs.Ytahcpappailjgaa.SortW
open Go Go.RowKit Go.Proofs.Ytahcpappailjgaa Go.Proofs.YtahcpappailjgaaW.PrintWords Go.Proofs.YtahcpappailjgaaW.PrintLast Go.Proofs.YtahcpappailjgaaW.PrintMore
open Go.Proofs.Ytahcpappailjgaa.SortP
variable {α : Type} {E : Ent α}
theorem merge_ok (κ : α → Int) (tag : α → Nat) (g cap : Nat) (w0 : World) (hC : CmpOK E κ g w0) : ∀ N, MergeOK E κ tag g cap w0 N
 | 0 => by
  intro T a m b X L R Y w hN hL hR ha hm hb
  omega
 | N + 1 => by
  intro T a m b X L R Y w hN hL hR ha hm hb hT hbig hW hsl hsr ht hRow; by_cases h1 : L.length = 1
  ·obtain ⟨x, rfl⟩ := List.length_eq_one_iff.mp h1; refine (merge_one κ tag g cap w0 hC T a m b X R Y x w hR ha hm hb hT hbig hW hsr (fun y hy => ht x List.mem_cons_self y hy) hRow).mono ?_; rintro e w' ⟨rfl, ⟨S, p, s, r⟩, g'⟩; exact ⟨rfl, ⟨S, p, s, r⟩, g'⟩
  ·by_cases h2 : R.length = 1
   ·obtain ⟨y, rfl⟩ := List.length_eq_one_iff.mp h2; exact merge_last κ tag g cap w0 hC T a m b X L Y y w (by omega) ha hm hb hT hbig hW hsl (fun z hz => ht z hz y List.mem_cons_self) hRow
   ·exact merge_step κ tag g cap w0 hC N (merge_ok κ tag g cap w0 hC N) T a m b X L R Y w hN (by omega) (by omega) ha hm hb hT hbig hW hsl hsr ht hRow
set_option maxHeartbeats 16000000 in
set_option maxRecDepth 100000 in
theorem stable_ok (κ : α → Int) (tag : α → Nat) (g cap n : Nat) (D : List α) (w0 w : World) (hC : CmpOK E κ g w0) (hW : w0.grownBy w (some g)) (hn : n = D.length) (hbig : n ≤ 100000) (ht : D.Pairwise fun x y => tag x < tag y) (hR : Row E w g D) :
  Calls Try.prog 90 #[.slice (some ⟨g, 0, none⟩) n cap, .int .i64 (n : Int), .func (.func 70) #[] #[]] w fun e w' => e = .returned (.tuple #[]) ∧ (∃ S, S.Perm D ∧ Srt κ tag S ∧ Row E w' g S) ∧ w.grownBy w' (some g) := by
 have HR := Aside0.mk hR; have HN := Aside0.mk hn; have HC := Aside0.mk hC; have HW := Aside0.mk hW; have HT := Aside0.mk ht; clear hR hC hW ht hn; go_enter Try.func90, Try.ntmps90; go_wp2_with fail
 go_loopg [7, 8] D.length (fun kq v7 v8 w' => ∃ (a b : Nat) (P P' Q' : List α), v7 = .int .i64 (a : Int) ∧ v8 = .int .i64 (b : Int) ∧ Aside0 (b = a + 20 ∧ a = P.length ∧ Q'.length ≤ kq ∧ a + Q'.length = n) ∧ Aside0 (D = P' ++ Q' ∧ Fl κ tag 20 P P') ∧ Aside0 (Row E w' g (P ++ Q')) ∧ Aside0 (w.grownBy w' (some g)))
 case atStart => exact ⟨0, 20, [], [], D, rfl, rfl, ⟨rfl, rfl, Nat.le_refl _, by have := HN.out; omega⟩, ⟨rfl, .nil⟩, HR, ⟨grown_refl _ _⟩⟩
 case round =>
  clear HR; obtain ⟨a, b, P, P', Q', rfl, rfl, HK, HD, HR, HG⟩ := hrel; obtain ⟨k1, k2, k3, k4⟩ := HK.out
  have hab : a ≤ 100000 := (by omega)
  have hbb : b ≤ 200000 := (by omega)
  have htq : Q'.Pairwise fun x y => tag x < tag y := by
   have h := HT.out; rw [HD.out.1] at h; exact (List.pairwise_append.mp h).2.1
  by_cases hlt : b ≤ n
  ·have hq : Q' = Q'.take 20 ++ Q'.drop 20 := (List.take_append_drop _ _).symm
   have l1 : (Q'.take 20).length = 20 := (by rw [List.length_take]; omega)
   have l2 : (Q'.drop 20).length + 20 = Q'.length := (by rw [List.length_drop]; omega)
   have hR1 := HR.out; rw [hq] at hR1
   have ht1 : (Q'.take 20).Pairwise fun x y => tag x < tag y := by
    rw [hq] at htq; exact (List.pairwise_append.mp htq).1
   have HI := Aside0.mk (insertion_ok κ tag g cap n a b P (Q'.take 20) (Q'.drop 20) k2 (by omega) (by omega) (by omega) w0 wr HC.out (grown_trans HW.out HG.out) ht1 hR1); have HL := Aside0.mk (And.intro l1 l2); have HQ := Aside0.mk hq
   cases gk with
   | zero => exact absurd hlt (by omega)
   | succ kq' =>
   clear k1 k2 k3 k4 htq hq l1 l2 hR1 ht1
   go_wp2_with (go_at_call 94; refine HI.out.mono ?_; rintro e w5 ⟨rfl, ⟨S, p5, s5, h5⟩, g5⟩; have HP5 := Aside0.mk (And.intro p5 s5); have HR5 := Aside0.mk h5; have HG5 := Aside0.mk (grown_trans HG.out g5); clear p5 s5 h5 g5)
   go_roundg kq'
   case measure => omega
   case rel => exact ⟨b, b + 20, P ++ S, P' ++ Q'.take 20, Q'.drop 20, rfl, by go_num, ⟨rfl, by rw [List.length_append, HP5.out.1.length_eq]; have := HK.out; have := HL.out; omega, by have := HK.out; have := HL.out; omega, by have := HK.out; have := HL.out; omega⟩, ⟨by rw [List.append_assoc, ← HQ.out]; exact HD.out.1, .snoc HD.out.2 (by rw [HP5.out.1.length_eq]; exact HL.out.1) HP5.out.1 HP5.out.2⟩, ⟨by rw [List.append_assoc]; exact HR5.out⟩, HG5⟩
  ·have HI := Aside0.mk (insertion_ok κ tag g cap n a n P Q' [] k2 (by omega) (by simp; omega) (by omega) w0 wr HC.out (grown_trans HW.out HG.out) htq (by rw [List.append_nil]; exact HR.out)); clear k1 k2 k3 k4 htq
   go_upto_region 7 with (go_at_call 94; refine HI.out.mono ?_; rintro e w5 ⟨rfl, ⟨S, p5, s5, h5⟩, g5⟩; have HP5 := Aside0.mk (And.intro p5 s5); have HR5 := Aside0.mk h5; have HG5 := Aside0.mk (grown_trans HG.out g5); clear p5 s5 h5 g5)
   have HB0 : Aside0 (Bl κ tag 20 (P ++ S) D) := ⟨by
    rw [HD.out.1]
    exact HD.out.2.app (.last (by rw [HP5.out.1.length_eq]; have := HK.out; omega) HP5.out.1 HP5.out.2)⟩
   have HR6 : Aside0 (Row E w5 g (P ++ S)) := ⟨by have h := HR5.out; rw [List.append_nil] at h; exact h⟩
   clear HR5 HP5 HI HR HG HK HD; go_wp2_with fail
   go_loopg [6] n (fun kq v6 w' => ∃ (k : Nat) (d : List α), v6 = .int .i64 (k : Int) ∧ Aside0 (20 ≤ k ∧ k ≤ 400000 ∧ n ≤ k + kq) ∧ Aside0 (Bl κ tag k d D) ∧ Aside0 (Row E w' g d) ∧ Aside0 (w.grownBy w' (some g)))
   case atStart => exact ⟨20, P ++ S, rfl, ⟨Nat.le_refl _, by omega, by omega⟩, HB0, HR6, HG5⟩
   case round =>
    clear HB0 HR6 HG5; obtain ⟨k, d, rfl, HK, HB, HR, HG⟩ := hrel; obtain ⟨k1, k2, k3⟩ := HK.out; have HDL := Aside0.mk (show d.length = n by rw [HB.out.len, HN.out]); by_cases hkn : k < n
    ·obtain ⟨kk, hkk⟩ : ∃ kk, kk = 2 * k := ⟨_, rfl⟩
     have v1 : IntKind.i64.wrap (2 * (k : Int)) = (kk : Int) := (by rw [i64_w]; unfold wrap64; omega)
     have v2 : IntKind.i64.wrap ((k : Int) * 2) = (kk : Int) := (by rw [i64_w]; unfold wrap64; omega)
     have HKK := Aside0.mk hkk
     have hkb : kk ≤ 200000 := (by omega)
     clear hkk
     cases gk with
     | zero => exact absurd hkn (by omega)
     | succ kq' =>
     go_wp2_with fail
     go_loopg [7, 8] n (fun kq v7 v8 w' => ∃ (a b : Nat) (P P' Q Q' : List α), v7 = .int .i64 (a : Int) ∧ v8 = .int .i64 (b : Int) ∧ Aside0 (b = a + kk ∧ a = P.length ∧ Q.length ≤ kq ∧ a + Q.length = n) ∧ Aside0 (D = P' ++ Q' ∧ Fl κ tag kk P P' ∧ Bl κ tag k Q Q') ∧ Aside0 (Row E w' g (P ++ Q)) ∧ Aside0 (w.grownBy w' (some g)))
     case atStart => exact ⟨0, kk, [], [], d, D, rfl, rfl, ⟨by omega, rfl, by have := HDL.out; omega, by have := HDL.out; omega⟩, ⟨rfl, .nil, HB.out⟩, HR, HG⟩
     case round =>
      clear HB HR HG HDL; obtain ⟨a, b, P, P', Q, Q', rfl, rfl, HA, HD, HR, HG⟩ := hrel; obtain ⟨a1, a2, a3, a4⟩ := HA.out
      have hab : a ≤ 100000 := (by omega)
      have hbb : b ≤ 400000 := (by omega)
      obtain ⟨m, hm⟩ : ∃ m, m = a + k := ⟨_, rfl⟩
      have hmb : m ≤ 400000 := (by omega)
      have v3 : IntKind.i64.wrap ((a : Int) + (k : Int)) = (m : Int) := (by rw [i64_w]; unfold wrap64; omega)
      by_cases hlt : b ≤ n
      ·obtain ⟨S1, S1', Q1, Q1', rfl, rfl, l1, p1, s1, b1⟩ := HD.out.2.2.first (by have := HKK.out; omega); rw [List.length_append] at a3 a4; obtain ⟨S2, S2', Q2, Q2', rfl, rfl, l2, p2, s2, b2⟩ := b1.first (by have := HKK.out; omega); rw [List.length_append] at a3 a4
       have hts : ∀ x ∈ S1, ∀ y ∈ S2, tag x < tag y := by
        have h := HT.out; rw [HD.out.1] at h; have h2 := (List.pairwise_append.mp h).2.1; intro x hx y hy; exact (List.pairwise_append.mp h2).2.2 x (p1.mem_iff.mp hx) y (List.mem_append_left _ (p2.mem_iff.mp hy))
       have HM := Aside0.mk (merge_ok κ tag g cap w0 HC.out kk n a m b P S1 S2 Q2 wr (by omega) (by omega) (by omega) a2 (by omega) (by have := HKK.out; omega) (by omega) (by omega) (grown_trans HW.out HG.out) s1 s2 hts HR.out); have HP := Aside0.mk (And.intro p1 (And.intro p2 (And.intro l1 (And.intro l2 b2)))); have HAQ := Aside0.mk (And.intro a1 (And.intro a2 (And.intro a3 a4)))
       have v4 : IntKind.i64.wrap ((b : Int) + (kk : Int)) = ((b + kk : Nat) : Int) := (by rw [i64_w]; unfold wrap64; omega)
       obtain ⟨b', hb'⟩ : ∃ b', b' = b + kk := ⟨_, rfl⟩
       rw [← hb'] at v4; have HBB := Aside0.mk hb'; have HMM := Aside0.mk hm
       cases gk with
       | zero => exact absurd l1 (by omega)
       | succ kq2 =>
       clear a1 a2 a3 a4 hts l1 p1 s1 b1 l2 p2 s2 b2 hb' hm
       go_wp2_with (go_at_call 95; refine HM.out.mono ?_; rintro e w5 ⟨rfl, ⟨S, p5, s5, h5⟩, g5⟩; have HP5 := Aside0.mk (And.intro p5 s5); have HR5 := Aside0.mk h5; have HG5 := Aside0.mk (grown_trans HG.out g5); clear p5 s5 h5 g5)
       go_roundg kq2
       case measure => omega
       case rel => exact ⟨b, b', P ++ S, P' ++ (S1' ++ S2'), Q2, Q2', rfl, rfl, ⟨HBB.out, by rw [List.length_append, HP5.out.1.length_eq, List.length_append]; have := HAQ.out; have := HP.out.2.2.1; have := HP.out.2.2.2.1; have := HKK.out; omega, by have := HAQ.out; have := HP.out.2.2.1; omega, by have := HAQ.out; have := HP.out.2.2.1; have := HP.out.2.2.2.1; have := HKK.out; omega⟩, ⟨by rw [HD.out.1]; simp only [List.append_assoc], .snoc HD.out.2.1 (by rw [HP5.out.1.length_eq, List.length_append]; have := HP.out.2.2.1; have := HP.out.2.2.2.1; have := HKK.out; omega) (HP5.out.1.trans (HP.out.1.append HP.out.2.1)) HP5.out.2, HP.out.2.2.2.2⟩, ⟨by rw [List.append_assoc]; exact HR5.out⟩, HG5⟩
      ·by_cases hmn : m < n
       ·obtain ⟨S1, S1', Q1, Q1', rfl, rfl, l1, p1, s1, b1⟩ := HD.out.2.2.first (by omega); rw [List.length_append] at a3 a4; obtain ⟨p2, s2⟩ := b1.one (by have := HKK.out; omega) (by omega)
        have hts : ∀ x ∈ S1, ∀ y ∈ Q1, tag x < tag y := by
         have h := HT.out; rw [HD.out.1] at h; have h2 := (List.pairwise_append.mp h).2.1; intro x hx y hy; exact (List.pairwise_append.mp h2).2.2 x (p1.mem_iff.mp hx) y (p2.mem_iff.mp hy)
        have HM := Aside0.mk (merge_ok κ tag g cap w0 HC.out n n a m n P S1 Q1 [] wr (by omega) (by omega) (by omega) a2 (by omega) (by omega) (by simp; omega) (by omega) (grown_trans HW.out HG.out) s1 s2 hts (by rw [List.append_nil]; exact HR.out)); have HP := Aside0.mk (And.intro p1 (And.intro p2 (And.intro l1 a4)))
        have HBN : Aside0 (∀ S : List α, S.Perm (S1 ++ Q1) → Srt κ tag S → Bl κ tag kk (P ++ S) D) := ⟨fun S h1 h2 => by
         rw [HD.out.1]; refine HD.out.2.1.app (.last ?_ (h1.trans (p1.append p2)) h2); rw [h1.length_eq, List.length_append]; have := HKK.out
         omega⟩
        have hkq : n ≤ kk + kq' := (by have := HKK.out; have := HK.out; omega)
        have HMM := Aside0.mk hm; clear a1 a2 a3 a4 hts l1 p1 s1 b1 p2 s2 hm
        go_wp2_with (go_at_call 95; refine HM.out.mono ?_; rintro e w5 ⟨rfl, ⟨S, p5, s5, h5⟩, g5⟩; have HP5 := Aside0.mk (And.intro p5 s5); have HR5 := Aside0.mk h5; have HG5 := Aside0.mk (grown_trans HG.out g5); clear p5 s5 h5 g5)
        go_roundg kq'
        case measure => omega
        case rel => exact ⟨kk, P ++ S, rfl, ⟨by have := HKK.out; have := HK.out; omega, by omega, hkq⟩, ⟨HBN.out S HP5.out.1 HP5.out.2⟩, ⟨by have h := HR5.out; rw [List.append_nil] at h; exact h⟩, HG5⟩
       ·obtain ⟨p1, s1⟩ := HD.out.2.2.one (by omega) (by omega)
        have HBN : Aside0 (Bl κ tag kk (P ++ Q) D) := ⟨by
         rw [HD.out.1]
         exact HD.out.2.1.app (.last (by have := HKK.out; omega) p1 s1)⟩
        have hkq : n ≤ kk + kq' := (by have := HKK.out; have := HK.out; omega)
        have HMM := Aside0.mk hm; clear a1 a2 a3 a4 p1 s1 hm; go_wp2_with fail
        go_roundg kq'
        case measure => omega
        case rel => exact ⟨kk, P ++ Q, rfl, ⟨by have := HKK.out; have := HK.out; omega, by omega, hkq⟩, HBN, HR, HG⟩
    ·have h1 := HB.out.one (by have := HDL.out; omega) (by omega); have HF := Aside0.mk h1; clear h1; go_wp2_with fail; go_end0; exact ⟨rfl, ⟨d, HF.out.1, HF.out.2, HR.out⟩, HG.out⟩
set_option maxHeartbeats 8000000 in
set_option maxRecDepth 100000 in
theorem sortStable_ok (κ : α → Int) (tag : α → Nat) (g cap n : Nat) (D : List α) (w0 w : World) (hC : CmpOK E κ g w0) (hW : w0.grownBy w (some g)) (hn : n = D.length) (hbig : n ≤ 100000) (ht : D.Pairwise fun x y => tag x < tag y) (hR : Row E w g D) :
  Calls Try.prog 69 #[.slice (some ⟨g, 0, none⟩) n cap, .func (.func 70) #[] #[]] w fun e w' => e = .returned (.tuple #[]) ∧ (∃ S, S.Perm D ∧ Srt κ tag S ∧ Row E w' g S) ∧ w.grownBy w' (some g) := by
 have HS := Aside0.mk (stable_ok κ tag g cap n D w0 w hC hW hn hbig ht hR); clear hC hW hn ht hR; go_enter Try.func69, Try.ntmps69
 go_wp2_with (go_at_call 90; refine HS.out.mono ?_; rintro e w5 ⟨rfl, h5, g5⟩; have HR5 := Aside0.mk h5; have HG5 := Aside0.mk g5; clear h5 g5)
 go_end0; exact ⟨rfl, HR5.out, HG5.out⟩
end Go.Proofs.Ytahcpappailjgaa.SortW

namespace Go.Proofs.Ytahcpappailjgaa.P
open Go.RowKit Go.Proofs.YtahcpappailjgaaW.PrintWords Go.Proofs.YtahcpappailjgaaW.PrintLast Go.Proofs.YtahcpappailjgaaW.PrintMore
attribute [local go_sem] max2_int min2_int max_two min_two max_three min_three max_four min_four
set_option linter.unusedVariables false
set_option linter.unusedSimpArgs false

theorem info87 : (Try.prog.info? 87).map (fun i => (i.zero, i.size, i.bytes)) = some (some (.agg #[(.int .i64 0), (.int .i64 0), (.bool false), (.int .i64 0), (.int .i64 0), (.string ⟨#[]⟩)]), 6, 56) := by kernel_rfl

/-! #### struct type 87 -/
structure S87 where
 f0 : Int
 f1 : Int
 f2 : Bool
 f3 : S39
def z87 : S87 := ⟨(0 : Int), (0 : Int), false, z39⟩
def k87 : Kd S87 := Kd.iso (Kd.pair (Kd.int .i64) (Kd.pair (Kd.int .i64) (Kd.pair Kd.bool k39))) (fun x : S87 => (x.f0, x.f1, x.f2, x.f3))
theorem k87_open {w : World} {x : S87} {cs : List Value} (h : k87.K w x cs) : cs = [.int .i64 x.f0, .int .i64 x.f1, .bool x.f2, .int .i64 x.f3.f0, .int .i64 x.f3.f1, .string x.f3.f2] := by
 obtain ⟨_, _, rfl, rfl, ⟨_, _, rfl, rfl, ⟨_, _, rfl, rfl, s3⟩⟩⟩ := h; obtain rfl := k39_open s3; exact rfl
theorem k87_mk (w : World) (x : S87)  : k87.K w x [.int .i64 x.f0, .int .i64 x.f1, .bool x.f2, .int .i64 x.f3.f0, .int .i64 x.f3.f1, .string x.f3.f2] := ⟨[.int .i64 x.f0], [.int .i64 x.f1, .bool x.f2, .int .i64 x.f3.f0, .int .i64 x.f3.f1, .string x.f3.f2], rfl, rfl, ⟨[.int .i64 x.f1], [.bool x.f2, .int .i64 x.f3.f0, .int .i64 x.f3.f1, .string x.f3.f2], rfl, rfl, ⟨[.bool x.f2], [.int .i64 x.f3.f0, .int .i64 x.f3.f1, .string x.f3.f2], rfl, rfl, (k39_mk w x.f3 )⟩⟩⟩
theorem k87_mkM (w : World) (base : Nat) (ok : Nat → Prop) (x : S87)  : k87.M w base ok x [.int .i64 x.f0, .int .i64 x.f1, .bool x.f2, .int .i64 x.f3.f0, .int .i64 x.f3.f1, .string x.f3.f2] := ⟨[.int .i64 x.f0], [.int .i64 x.f1, .bool x.f2, .int .i64 x.f3.f0, .int .i64 x.f3.f1, .string x.f3.f2], rfl, rfl, ⟨[.int .i64 x.f1], [.bool x.f2, .int .i64 x.f3.f0, .int .i64 x.f3.f1, .string x.f3.f2], rfl, rfl, ⟨[.bool x.f2], [.int .i64 x.f3.f0, .int .i64 x.f3.f1, .string x.f3.f2], rfl, rfl, (k39_mkM w base ok x.f3 )⟩⟩⟩
def rd_T87 (xs : List S87) (i : Int) : S87 := xs.getD i.toNat z87
theorem at_T87 {w : World} {A : Option Addr} {n : Nat} {xs : List S87} (h : Kd.C k87 w A n xs) (i : Int) (h0 : 0 ≤ i) (h1 : i < n) : ∃ ad , A = some ad ∧ w.cell? (ad.add (i.toNat * 6)) = some (.int .i64 (rd_T87 xs i).f0) ∧ w.cell? ⟨(ad.add (i.toNat * 6)).block, (ad.add (i.toNat * 6)).off + 1, none⟩ = some (.int .i64 (rd_T87 xs i).f1) ∧ w.cell? ⟨(ad.add (i.toNat * 6)).block, (ad.add (i.toNat * 6)).off + 2, none⟩ = some (.bool (rd_T87 xs i).f2) ∧ w.cell? ⟨(ad.add (i.toNat * 6)).block, (ad.add (i.toNat * 6)).off + 3, none⟩ = some (.int .i64 (rd_T87 xs i).f3.f0) ∧ w.cell? ⟨(ad.add (i.toNat * 6)).block, (ad.add (i.toNat * 6)).off + 4, none⟩ = some (.int .i64 (rd_T87 xs i).f3.f1) ∧ w.cell? ⟨(ad.add (i.toNat * 6)).block, (ad.add (i.toNat * 6)).off + 5, none⟩ = some (.string (rd_T87 xs i).f3.f2) := by
 obtain ⟨ad, c, e, _, hK, hc0⟩ := Kd.C_get h z87 i h0 h1; have hc : ∀ j u, c[j]? = some u → w.cell? (ad.add (i.toNat * 6 + j)) = some u := hc0; obtain rfl := k87_open hK; exact ⟨ad, e, hc 0 _ rfl, by rw [← add_field _ _ 1 (by omega)]; exact hc 1 _ rfl, by rw [← add_field _ _ 2 (by omega)]; exact hc 2 _ rfl, by rw [← add_field _ _ 3 (by omega)]; exact hc 3 _ rfl, by rw [← add_field _ _ 4 (by omega)]; exact hc 4 _ rfl, by rw [← add_field _ _ 5 (by omega)]; exact hc 5 _ rfl⟩

def rd_LQ6 (xs : List (List S87)) (i : Int) : (List S87) := xs.getD i.toNat ([] : List S87)
theorem at_LQ6 {w : World} {A : Option Addr} {n : Nat} {xs : List (List S87)} (h : Kd.C (Kd.slice 87 k87) w A n xs) (i : Int) (h0 : 0 ≤ i) (h1 : i < n) : ∃ ad A0 c0, A = some ad ∧ w.cell? (ad.add i.toNat) = some (.slice A0 (rd_LQ6 xs i).length c0) ∧ (rd_LQ6 xs i).length ≤ c0 ∧ k87.C w A0 (rd_LQ6 xs i).length (rd_LQ6 xs i) := by
 obtain ⟨ad, c, e, _, hK, hc0⟩ := Kd.C_get h ([] : List S87) i h0 h1; have hc : ∀ j u, c[j]? = some u → w.cell? (ad.add (i.toNat * 1 + j)) = some u := hc0; obtain ⟨A0, c0, rfl, l0, g0⟩ := hK; exact ⟨ad, A0, c0, e, by have hq := hc 0 _ rfl; rwa [Nat.mul_one, Nat.add_zero] at hq, l0, g0⟩

/-! ### rope_reach: function 71 -/
def rope_reach.l0 : Nat → Int → Int → List (S87) → Int → Int → Option (Int × Int)
 | 0, _, _, _, _, _ => none
 | k + 1, x4, x5, x16, x17, x18 => if x18 < x17 then (if 0 ≤ x18 then (if x18 < (x16.length : Int) then (rope_reach.l0 k (mn x4 ((rd_T87 x16 x18).f0)) (mx x5 ((rd_T87 x16 x18).f1)) x16 x17 (wrap64 (x18 + 1))) else (none)) else (none)) else (some (x4, x5))
def rope_reach.f (k : Nat) (l0 : List (S87)) : Option (Int × Int) := if 0 < (l0.length : Int) then (rope_reach.l0 k ((rd_T87 l0 0).f0) ((rd_T87 l0 0).f1) l0 (l0.length : Int) 0) else (none)
set_option maxHeartbeats 8000000 in
set_option maxRecDepth 100000 in
theorem rope_reach.calls (k : Nat) (A0 : Option Addr) (c0 : Nat) (l0 : List (S87)) (r1 : Int) (r2 : Int) (w : World) (hr0 : Kd.C k87 w A0 l0.length l0) (hc0 : l0.length ≤ c0) (h : rope_reach.f k l0 = some (r1, r2)) :
  Calls Try.prog 71 #[.slice A0 l0.length c0] w fun e w' => e = .returned (.tuple #[.int .i64 r1, .int .i64 r2]) ∧ Below w.heap.size w w' := by
 have hu87 := Try.underlying87; have HR0 := Aside0.mk hr0; have HC0 := Aside0.mk hc0; clear hr0 hc0; have HB := Aside0.mk (Below.refl w.heap.size w); have H : (if 0 < (l0.length : Int) then (rope_reach.l0 k ((rd_T87 l0 0).f0) ((rd_T87 l0 0).f1) l0 (l0.length : Int) 0) else (none)) = some (r1, r2) := h; clear h; by_cases c2 : 0 < (l0.length : Int)
 ·rw [if_pos c2] at H; have c2b0 : decide (0 < (l0.length : Int)) = true := decide_eq_true c2; have c2b1 : decide (0 < l0.length) = true := decide_eq_true (by omega); clear c2; have H' := Aside0.mk H; clear H
  have p115 : 0 ≤ (0 : Int) := (by omega)
  have q115 : 0 < (l0.length : Int) := of_decide_eq_true (by first | (with_reducible assumption) | assumption); obtain ⟨ad115, e115, hx115_0, hx115_1, hx115_2, hx115_3, hx115_4, hx115_5⟩ := at_T87 HR0.out 0 p115 q115
  cases e115
  have qi115 : (0 < l0.length) = True := eq_true (by omega)
  (try rw [show ((0 : Int)).toNat = 0 from rfl] at hx115_0)
  (try rw [show 0 * 6 = 0 from rfl] at hx115_0)
  (try rw [Addr.add_zero'] at hx115_0)
  (try rw [show ((0 : Int)).toNat = 0 from rfl] at hx115_1)
  (try rw [show 0 * 6 = 0 from rfl] at hx115_1)
  (try rw [Addr.add_zero'] at hx115_1)
  (try rw [show ((0 : Int)).toNat = 0 from rfl] at hx115_2)
  (try rw [show 0 * 6 = 0 from rfl] at hx115_2)
  (try rw [Addr.add_zero'] at hx115_2)
  (try rw [show ((0 : Int)).toNat = 0 from rfl] at hx115_3)
  (try rw [show 0 * 6 = 0 from rfl] at hx115_3)
  (try rw [Addr.add_zero'] at hx115_3)
  (try rw [show ((0 : Int)).toNat = 0 from rfl] at hx115_4)
  (try rw [show 0 * 6 = 0 from rfl] at hx115_4)
  (try rw [Addr.add_zero'] at hx115_4)
  (try rw [show ((0 : Int)).toNat = 0 from rfl] at hx115_5)
  (try rw [show 0 * 6 = 0 from rfl] at hx115_5)
  (try rw [Addr.add_zero'] at hx115_5)
  replace p115 := eq_true p115; replace q115 := eq_true q115
  have p116 : 0 ≤ (0 : Int) := (by omega)
  have q116 : 0 < (l0.length : Int) := of_decide_eq_true (by first | (with_reducible assumption) | assumption); obtain ⟨ad116, e116, hx116_0, hx116_1, hx116_2, hx116_3, hx116_4, hx116_5⟩ := at_T87 HR0.out 0 p116 q116
  obtain rfl : ad115 = ad116 := (by injection e116)
  have qi116 : (0 < l0.length) = True := eq_true (by omega)
  (try rw [show ((0 : Int)).toNat = 0 from rfl] at hx116_0)
  (try rw [show 0 * 6 = 0 from rfl] at hx116_0)
  (try rw [Addr.add_zero'] at hx116_0)
  (try rw [show ((0 : Int)).toNat = 0 from rfl] at hx116_1)
  (try rw [show 0 * 6 = 0 from rfl] at hx116_1)
  (try rw [Addr.add_zero'] at hx116_1)
  (try rw [show ((0 : Int)).toNat = 0 from rfl] at hx116_2)
  (try rw [show 0 * 6 = 0 from rfl] at hx116_2)
  (try rw [Addr.add_zero'] at hx116_2)
  (try rw [show ((0 : Int)).toNat = 0 from rfl] at hx116_3)
  (try rw [show 0 * 6 = 0 from rfl] at hx116_3)
  (try rw [Addr.add_zero'] at hx116_3)
  (try rw [show ((0 : Int)).toNat = 0 from rfl] at hx116_4)
  (try rw [show 0 * 6 = 0 from rfl] at hx116_4)
  (try rw [Addr.add_zero'] at hx116_4)
  (try rw [show ((0 : Int)).toNat = 0 from rfl] at hx116_5)
  (try rw [show 0 * 6 = 0 from rfl] at hx116_5)
  (try rw [Addr.add_zero'] at hx116_5)
  replace p116 := eq_true p116; replace q116 := eq_true q116; go_enter Try.func71, Try.ntmps71; go_wp2
  repeat (go_quiet (fail); try go_wp2)
  go_loopg [4, 5, 18] k (fun kq v4 v5 v18 w' => ∃ (x4_1 : Int) (x5_1 : Int) (x18_1 : Int), v4 = .int .i64 x4_1 ∧ v5 = .int .i64 x5_1 ∧ v18 = .int .i64 x18_1 ∧ Aside0 (rope_reach.l0 kq x4_1 x5_1 l0 (l0.length : Int) x18_1 = some (r1, r2)) ∧ Aside0 (kq ≤ k) ∧ Aside0 (Below w.heap.size w w'))
  case atStart => exact ⟨((rd_T87 l0 0).f0), ((rd_T87 l0 0).f1), (0), (by first | rfl | (simp; done) | (simp [*]; done)), (by first | rfl | (simp; done) | (simp [*]; done)), (by first | rfl | (simp; done) | (simp [*]; done)), H', ⟨Nat.le_refl _⟩, ⟨by repeat (first | (with_reducible first | exact HB.out | apply below_alloc | apply pw_below_drewN | apply below_drew1) | exact HB.out)⟩⟩
  case round =>
   clear H'; obtain ⟨x4_1, x5_1, x18_1, rfl, rfl, rfl, HA, HK1, HB⟩ := hrel
   cases gk with
   | zero => exact absurd HA.out (by simp [rope_reach.l0])
   | succ k1 =>
    have H := HA.out; clear HA; simp only [rope_reach.l0] at H; by_cases c3 : x18_1 < (l0.length : Int)
    ·rw [if_pos c3] at H; have c3b0 : decide (x18_1 < (l0.length : Int)) = true := decide_eq_true c3; clear c3; by_cases c4 : 0 ≤ x18_1
     ·rw [if_pos c4] at H; have c4b0 : decide (0 ≤ x18_1) = true := decide_eq_true c4; clear c4; by_cases c5 : x18_1 < (l0.length : Int)
      ·rw [if_pos c5] at H; have c5b0 : decide (x18_1 < (l0.length : Int)) = true := decide_eq_true c5; clear c5
       obtain ⟨ji6, hji6⟩ : ∃ j_ : Int, (mn x4_1 ((rd_T87 l0 x18_1).f0)) = j_ := ⟨_, rfl⟩
       replace H : (rope_reach.l0 k1 ji6 (mx x5_1 ((rd_T87 l0 x18_1).f1)) l0 (l0.length : Int) (wrap64 (x18_1 + 1))) = some (r1, r2) := by first | (rw [hji6] at H; exact H) | (simp only [hji6] at H ⊢; exact H)
       have hji6_ : (if ((rd_T87 l0 x18_1).f0) < x4_1 then ((rd_T87 l0 x18_1).f0) else x4_1) = ji6 := hji6
       obtain ⟨ji7, hji7⟩ : ∃ j_ : Int, (mx x5_1 ((rd_T87 l0 x18_1).f1)) = j_ := ⟨_, rfl⟩
       replace H : (rope_reach.l0 k1 ji6 ji7 l0 (l0.length : Int) (wrap64 (x18_1 + 1))) = some (r1, r2) := by first | (rw [hji7] at H; exact H) | (simp only [hji7] at H ⊢; exact H)
       have hji7_ : (if x5_1 < ((rd_T87 l0 x18_1).f1) then ((rd_T87 l0 x18_1).f1) else x5_1) = ji7 := hji7; have H' := Aside0.mk H; clear H; have p117 : 0 ≤ (x18_1 : Int) := of_decide_eq_true (by first | (with_reducible assumption) | assumption); have q117 : x18_1 < (l0.length : Int) := of_decide_eq_true (by first | (with_reducible assumption) | assumption); obtain ⟨ad117, e117, hx117_0, hx117_1, hx117_2, hx117_3, hx117_4, hx117_5⟩ := at_T87 HR0.out x18_1 p117 q117
       obtain rfl : ad115 = ad117 := (by injection e117)
       replace hx117_0 := (HB.out.cell (World.block_lt_of_cell? w _ hx117_0)).trans hx117_0; replace hx117_1 := (HB.out.cell (World.block_lt_of_cell? w _ hx117_1)).trans hx117_1; replace hx117_2 := (HB.out.cell (World.block_lt_of_cell? w _ hx117_2)).trans hx117_2; replace hx117_3 := (HB.out.cell (World.block_lt_of_cell? w _ hx117_3)).trans hx117_3; replace hx117_4 := (HB.out.cell (World.block_lt_of_cell? w _ hx117_4)).trans hx117_4; replace hx117_5 := (HB.out.cell (World.block_lt_of_cell? w _ hx117_5)).trans hx117_5; replace p117 := eq_true p117; replace q117 := eq_true q117
       go_wp2_with (first | ((with_reducible refine gate_dst (N := 7) rfl ?_); refine box_event ?hg (N := 7) ?hd (cs := #[.int .i64 0, .int .i64 0, .bool false, .int .i64 0, .int .i64 0, .string (⟨#[]⟩ : ByteArray)]) (t := 87) ?hr ?_; (case hd => rfl); (case hg => rfl); (case hr => first | (go_simp; done) | (go_simp; rfl)); intro gb118 hg w8 hbox hb; have n0_ := Aside0.mk (below_step (by repeat (first | (with_reducible first | exact HB.out | apply below_alloc | apply pw_below_drewN | apply below_drew1) | exact HB.out)) hb); have n1_ := Aside0.mk (hbox); have n2_ := Aside0.mk ((by rw [hg]; exact (below_size (by repeat (first | (with_reducible first | exact HB.out | apply below_alloc | apply pw_below_drewN | apply below_drew1) | exact HB.out))) : w.heap.size ≤ gb118)); have n3_ := Aside0.mk ((by rw [hg]; exact (below_size (by repeat (first | (with_reducible first | exact HB.out | apply below_alloc | apply pw_below_drewN | apply below_drew1) | exact HB.out))) : w.heap.size ≤ gb118)); clear HB; have HB := n0_; have BK118 := n1_; have GW118 := n2_; have GE118 := n3_; clear n0_ n1_ n2_ n3_ hb hbox hg; have hcz9_0 : w8.cell? ⟨gb118, 0, none⟩ = some (.int .i64 0) := (blk_cell BK118.out 0).trans rfl; have hcz9_1 : w8.cell? ⟨gb118, 1, none⟩ = some (.int .i64 0) := (blk_cell BK118.out 1).trans rfl; have hcz9_2 : w8.cell? ⟨gb118, 2, none⟩ = some (.bool false) := (blk_cell BK118.out 2).trans rfl; have hcz9_3 : w8.cell? ⟨gb118, 3, none⟩ = some (.int .i64 0) := (blk_cell BK118.out 3).trans rfl; have hcz9_4 : w8.cell? ⟨gb118, 4, none⟩ = some (.int .i64 0) := (blk_cell BK118.out 4).trans rfl; have hcz9_5 : w8.cell? ⟨gb118, 5, none⟩ = some (.string (⟨#[]⟩ : ByteArray)) := (blk_cell BK118.out 5).trans rfl; have hfz9_0 := blk_frozen BK118.out 0; have hfz9_1 := blk_frozen BK118.out 1; have hfz9_2 := blk_frozen BK118.out 2; have hfz9_3 := blk_frozen BK118.out 3; have hfz9_4 := blk_frozen BK118.out 4; have hfz9_5 := blk_frozen BK118.out 5))
       repeat (go_quiet (first | ((with_reducible refine gate_dst (N := 7) rfl ?_); refine box_event ?hg (N := 7) ?hd (cs := #[.int .i64 0, .int .i64 0, .bool false, .int .i64 0, .int .i64 0, .string (⟨#[]⟩ : ByteArray)]) (t := 87) ?hr ?_; (case hd => rfl); (case hg => rfl); (case hr => first | (go_simp; done) | (go_simp; rfl)); intro gb118 hg w8 hbox hb; have n0_ := Aside0.mk (below_step (by repeat (first | (with_reducible first | exact HB.out | apply below_alloc | apply pw_below_drewN | apply below_drew1) | exact HB.out)) hb); have n1_ := Aside0.mk (hbox); have n2_ := Aside0.mk ((by rw [hg]; exact (below_size (by repeat (first | (with_reducible first | exact HB.out | apply below_alloc | apply pw_below_drewN | apply below_drew1) | exact HB.out))) : w.heap.size ≤ gb118)); have n3_ := Aside0.mk ((by rw [hg]; exact (below_size (by repeat (first | (with_reducible first | exact HB.out | apply below_alloc | apply pw_below_drewN | apply below_drew1) | exact HB.out))) : w.heap.size ≤ gb118)); clear HB; have HB := n0_; have BK118 := n1_; have GW118 := n2_; have GE118 := n3_; clear n0_ n1_ n2_ n3_ hb hbox hg; have hcz9_0 : w8.cell? ⟨gb118, 0, none⟩ = some (.int .i64 0) := (blk_cell BK118.out 0).trans rfl; have hcz9_1 : w8.cell? ⟨gb118, 1, none⟩ = some (.int .i64 0) := (blk_cell BK118.out 1).trans rfl; have hcz9_2 : w8.cell? ⟨gb118, 2, none⟩ = some (.bool false) := (blk_cell BK118.out 2).trans rfl; have hcz9_3 : w8.cell? ⟨gb118, 3, none⟩ = some (.int .i64 0) := (blk_cell BK118.out 3).trans rfl; have hcz9_4 : w8.cell? ⟨gb118, 4, none⟩ = some (.int .i64 0) := (blk_cell BK118.out 4).trans rfl; have hcz9_5 : w8.cell? ⟨gb118, 5, none⟩ = some (.string (⟨#[]⟩ : ByteArray)) := (blk_cell BK118.out 5).trans rfl; have hfz9_0 := blk_frozen BK118.out 0; have hfz9_1 := blk_frozen BK118.out 1; have hfz9_2 := blk_frozen BK118.out 2; have hfz9_3 := blk_frozen BK118.out 3; have hfz9_4 := blk_frozen BK118.out 4; have hfz9_5 := blk_frozen BK118.out 5)); try go_wp2_with (first | ((with_reducible refine gate_dst (N := 7) rfl ?_); refine box_event ?hg (N := 7) ?hd (cs := #[.int .i64 0, .int .i64 0, .bool false, .int .i64 0, .int .i64 0, .string (⟨#[]⟩ : ByteArray)]) (t := 87) ?hr ?_; (case hd => rfl); (case hg => rfl); (case hr => first | (go_simp; done) | (go_simp; rfl)); intro gb118 hg w8 hbox hb; have n0_ := Aside0.mk (below_step (by repeat (first | (with_reducible first | exact HB.out | apply below_alloc | apply pw_below_drewN | apply below_drew1) | exact HB.out)) hb); have n1_ := Aside0.mk (hbox); have n2_ := Aside0.mk ((by rw [hg]; exact (below_size (by repeat (first | (with_reducible first | exact HB.out | apply below_alloc | apply pw_below_drewN | apply below_drew1) | exact HB.out))) : w.heap.size ≤ gb118)); have n3_ := Aside0.mk ((by rw [hg]; exact (below_size (by repeat (first | (with_reducible first | exact HB.out | apply below_alloc | apply pw_below_drewN | apply below_drew1) | exact HB.out))) : w.heap.size ≤ gb118)); clear HB; have HB := n0_; have BK118 := n1_; have GW118 := n2_; have GE118 := n3_; clear n0_ n1_ n2_ n3_ hb hbox hg; have hcz9_0 : w8.cell? ⟨gb118, 0, none⟩ = some (.int .i64 0) := (blk_cell BK118.out 0).trans rfl; have hcz9_1 : w8.cell? ⟨gb118, 1, none⟩ = some (.int .i64 0) := (blk_cell BK118.out 1).trans rfl; have hcz9_2 : w8.cell? ⟨gb118, 2, none⟩ = some (.bool false) := (blk_cell BK118.out 2).trans rfl; have hcz9_3 : w8.cell? ⟨gb118, 3, none⟩ = some (.int .i64 0) := (blk_cell BK118.out 3).trans rfl; have hcz9_4 : w8.cell? ⟨gb118, 4, none⟩ = some (.int .i64 0) := (blk_cell BK118.out 4).trans rfl; have hcz9_5 : w8.cell? ⟨gb118, 5, none⟩ = some (.string (⟨#[]⟩ : ByteArray)) := (blk_cell BK118.out 5).trans rfl; have hfz9_0 := blk_frozen BK118.out 0; have hfz9_1 := blk_frozen BK118.out 1; have hfz9_2 := blk_frozen BK118.out 2; have hfz9_3 := blk_frozen BK118.out 3; have hfz9_4 := blk_frozen BK118.out 4; have hfz9_5 := blk_frozen BK118.out 5)))
       go_roundg k1
       case measure => have := HK1.out; omega
       case rel => exact ⟨(ji6), (ji7), (wrap64 (x18_1 + 1)), (by first | rfl | (simp; done) | (simp only [← hji6] <;> (first | rfl | simp)) | (simp [*]; done)), (by first | rfl | (simp; done) | (simp only [← hji7] <;> (first | rfl | simp)) | (simp [*]; done)), (by first | rfl | (simp; done) | (simp [*]; done)), H', ⟨by have := HK1.out; omega⟩, ⟨by repeat (first | (with_reducible first | exact HB.out | apply below_alloc | apply pw_below_drewN | apply below_drew1 | refine below_set ?_ GE118.out) | exact HB.out)⟩⟩
      ·rw [if_neg c5] at H; exact absurd H (by simp)
     ·rw [if_neg c4] at H; exact absurd H (by simp)
    ·rw [if_neg c3] at H; have c3b0 : decide (x18_1 < (l0.length : Int)) = false := decide_eq_false c3; clear c3; simp only [Option.some.injEq, Prod.mk.injEq] at H; obtain ⟨rfl, rfl⟩ := H; go_wp2
     repeat (go_quiet (fail); try go_wp2)
     go_ret2
     exact ⟨by first | rfl | (simp [errW_none, errW_some] <;> rfl) | (simp [*, errW_none, errW_some] <;> rfl), by repeat (first | (with_reducible first | exact HB.out | apply below_alloc | apply pw_below_drewN | apply below_drew1) | exact HB.out)⟩
 ·rw [if_neg c2] at H; exact absurd H (by simp)

/-! ### rope_old: function 72 -/
def rope_old.l0 : Nat → Int → Int → List (S39) → Int → Int → Option (Int)
 | 0, _, _, _, _, _ => none
 | k + 1, x1, x5, x8, x9, x10 => if x10 < x9 then (if 0 ≤ x10 then (if x10 < (x8.length : Int) then (if (wrap64 ((wrap64 (((rd_T39 x8 x10).f0) + x5)) + (((rd_T39 x8 x10).f2).size : Int))) > x1 then (some (wrap64 (x1 - x5))) else (rope_old.l0 k x1 (wrap64 (x5 + (wrap64 ((((rd_T39 x8 x10).f2).size : Int) - (wrap64 (((rd_T39 x8 x10).f1) - ((rd_T39 x8 x10).f0))))))) x8 x9 (wrap64 (x10 + 1)))) else (none)) else (none)) else (some (wrap64 (x1 - x5)))
def rope_old.f (k : Nat) (l0 : List (S39)) (a1 : Int) : Option (Int) := rope_old.l0 k a1 0 l0 (l0.length : Int) 0
set_option maxHeartbeats 8000000 in
set_option maxRecDepth 100000 in
theorem rope_old.calls (k : Nat) (A0 : Option Addr) (c0 : Nat) (l0 : List (S39)) (a1 : Int) (r : Int) (w : World) (hr0 : Kd.C k39 w A0 l0.length l0) (hc0 : l0.length ≤ c0) (h : rope_old.f k l0 a1 = some r) :
  Calls Try.prog 72 #[.slice A0 l0.length c0, .int .i64 a1] w fun e w' => e = .returned (.int .i64 r) ∧ Below w.heap.size w w' := by
 have hu39 := Try.underlying39; have HR0 := Aside0.mk hr0; have HC0 := Aside0.mk hc0; clear hr0 hc0; have HB := Aside0.mk (Below.refl w.heap.size w); have H : (rope_old.l0 k a1 0 l0 (l0.length : Int) 0) = some r := h; clear h; have H' := Aside0.mk H; clear H; go_enter Try.func72, Try.ntmps72; go_wp2
 go_loopg [5, 10] k (fun kq v5 v10 w' => ∃ (x5_1 : Int) (x10_1 : Int), v5 = .int .i64 x5_1 ∧ v10 = .int .i64 x10_1 ∧ Aside0 (rope_old.l0 kq a1 x5_1 l0 (l0.length : Int) x10_1 = some r) ∧ Aside0 (kq ≤ k) ∧ Aside0 (Below w.heap.size w w'))
 case atStart => exact ⟨(0), (0), (by first | rfl | (simp; done) | (simp [*]; done)), (by first | rfl | (simp; done) | (simp [*]; done)), H', ⟨Nat.le_refl _⟩, ⟨by repeat (first | (with_reducible first | exact HB.out | apply below_alloc | apply pw_below_drewN | apply below_drew1) | exact HB.out)⟩⟩
 case round =>
  clear H'; obtain ⟨x5_1, x10_1, rfl, rfl, HA, HK1, HB⟩ := hrel
  cases gk with
  | zero => exact absurd HA.out (by simp [rope_old.l0])
  | succ k1 =>
   have H := HA.out; clear HA; simp only [rope_old.l0] at H; by_cases c3 : x10_1 < (l0.length : Int)
   ·rw [if_pos c3] at H; have c3b0 : decide (x10_1 < (l0.length : Int)) = true := decide_eq_true c3; clear c3; by_cases c4 : 0 ≤ x10_1
    ·rw [if_pos c4] at H; have c4b0 : decide (0 ≤ x10_1) = true := decide_eq_true c4; clear c4; by_cases c5 : x10_1 < (l0.length : Int)
     ·rw [if_pos c5] at H; have c5b0 : decide (x10_1 < (l0.length : Int)) = true := decide_eq_true c5; clear c5; by_cases c6 : (wrap64 ((wrap64 (((rd_T39 l0 x10_1).f0) + x5_1)) + (((rd_T39 l0 x10_1).f2).size : Int))) > a1
      ·rw [if_pos c6] at H; have c6b0 : decide (a1 < (wrap64 ((wrap64 (((rd_T39 l0 x10_1).f0) + x5_1)) + (((rd_T39 l0 x10_1).f2).size : Int)))) = true := decide_eq_true c6; clear c6; obtain rfl := Option.some.inj H; have p119 : 0 ≤ (x10_1 : Int) := of_decide_eq_true (by first | (with_reducible assumption) | assumption); have q119 : x10_1 < (l0.length : Int) := of_decide_eq_true (by first | (with_reducible assumption) | assumption); obtain ⟨ad119, e119, hx119_0, hx119_1, hx119_2⟩ := at_T39 HR0.out x10_1 p119 q119
       cases e119
       replace hx119_0 := (HB.out.cell (World.block_lt_of_cell? w _ hx119_0)).trans hx119_0; replace hx119_1 := (HB.out.cell (World.block_lt_of_cell? w _ hx119_1)).trans hx119_1; replace hx119_2 := (HB.out.cell (World.block_lt_of_cell? w _ hx119_2)).trans hx119_2; replace p119 := eq_true p119; replace q119 := eq_true q119
       go_wp2_with (first | ((with_reducible refine gate_dst (N := 7) rfl ?_); refine box_event ?hg (N := 7) ?hd (cs := #[.int .i64 0, .int .i64 0, .string (⟨#[]⟩ : ByteArray)]) (t := 39) ?hr ?_; (case hd => rfl); (case hg => rfl); (case hr => first | (go_simp; done) | (go_simp; rfl)); intro gb120 hg w7 hbox hb; have n0_ := Aside0.mk (below_step (by repeat (first | (with_reducible first | exact HB.out | apply below_alloc | apply pw_below_drewN | apply below_drew1) | exact HB.out)) hb); have n1_ := Aside0.mk (hbox); have n2_ := Aside0.mk ((by rw [hg]; exact (below_size (by repeat (first | (with_reducible first | exact HB.out | apply below_alloc | apply pw_below_drewN | apply below_drew1) | exact HB.out))) : w.heap.size ≤ gb120)); have n3_ := Aside0.mk ((by rw [hg]; exact (below_size (by repeat (first | (with_reducible first | exact HB.out | apply below_alloc | apply pw_below_drewN | apply below_drew1) | exact HB.out))) : w.heap.size ≤ gb120)); clear HB; have HB := n0_; have BK120 := n1_; have GW120 := n2_; have GE120 := n3_; clear n0_ n1_ n2_ n3_ hb hbox hg; have hcz8_0 : w7.cell? ⟨gb120, 0, none⟩ = some (.int .i64 0) := (blk_cell BK120.out 0).trans rfl; have hcz8_1 : w7.cell? ⟨gb120, 1, none⟩ = some (.int .i64 0) := (blk_cell BK120.out 1).trans rfl; have hcz8_2 : w7.cell? ⟨gb120, 2, none⟩ = some (.string (⟨#[]⟩ : ByteArray)) := (blk_cell BK120.out 2).trans rfl; have hfz8_0 := blk_frozen BK120.out 0; have hfz8_1 := blk_frozen BK120.out 1; have hfz8_2 := blk_frozen BK120.out 2))
       go_ret; exact ⟨by first | rfl | (simp [errW_none, errW_some] <;> rfl) | (simp [*, errW_none, errW_some] <;> rfl), by repeat (first | (with_reducible first | exact HB.out | apply below_alloc | apply pw_below_drewN | apply below_drew1 | refine below_set ?_ GE120.out) | exact HB.out)⟩
      ·rw [if_neg c6] at H; have c6b0 : decide (a1 < (wrap64 ((wrap64 (((rd_T39 l0 x10_1).f0) + x5_1)) + (((rd_T39 l0 x10_1).f2).size : Int)))) = false := decide_eq_false c6; clear c6; have H' := Aside0.mk H; clear H; have p119 : 0 ≤ (x10_1 : Int) := of_decide_eq_true (by first | (with_reducible assumption) | assumption); have q119 : x10_1 < (l0.length : Int) := of_decide_eq_true (by first | (with_reducible assumption) | assumption); obtain ⟨ad119, e119, hx119_0, hx119_1, hx119_2⟩ := at_T39 HR0.out x10_1 p119 q119
       cases e119
       replace hx119_0 := (HB.out.cell (World.block_lt_of_cell? w _ hx119_0)).trans hx119_0; replace hx119_1 := (HB.out.cell (World.block_lt_of_cell? w _ hx119_1)).trans hx119_1; replace hx119_2 := (HB.out.cell (World.block_lt_of_cell? w _ hx119_2)).trans hx119_2; replace p119 := eq_true p119; replace q119 := eq_true q119
       go_wp2_with (first | ((with_reducible refine gate_dst (N := 7) rfl ?_); refine box_event ?hg (N := 7) ?hd (cs := #[.int .i64 0, .int .i64 0, .string (⟨#[]⟩ : ByteArray)]) (t := 39) ?hr ?_; (case hd => rfl); (case hg => rfl); (case hr => first | (go_simp; done) | (go_simp; rfl)); intro gb120 hg w9 hbox hb; have n0_ := Aside0.mk (below_step (by repeat (first | (with_reducible first | exact HB.out | apply below_alloc | apply pw_below_drewN | apply below_drew1) | exact HB.out)) hb); have n1_ := Aside0.mk (hbox); have n2_ := Aside0.mk ((by rw [hg]; exact (below_size (by repeat (first | (with_reducible first | exact HB.out | apply below_alloc | apply pw_below_drewN | apply below_drew1) | exact HB.out))) : w.heap.size ≤ gb120)); have n3_ := Aside0.mk ((by rw [hg]; exact (below_size (by repeat (first | (with_reducible first | exact HB.out | apply below_alloc | apply pw_below_drewN | apply below_drew1) | exact HB.out))) : w.heap.size ≤ gb120)); clear HB; have HB := n0_; have BK120 := n1_; have GW120 := n2_; have GE120 := n3_; clear n0_ n1_ n2_ n3_ hb hbox hg; have hcz10_0 : w9.cell? ⟨gb120, 0, none⟩ = some (.int .i64 0) := (blk_cell BK120.out 0).trans rfl; have hcz10_1 : w9.cell? ⟨gb120, 1, none⟩ = some (.int .i64 0) := (blk_cell BK120.out 1).trans rfl; have hcz10_2 : w9.cell? ⟨gb120, 2, none⟩ = some (.string (⟨#[]⟩ : ByteArray)) := (blk_cell BK120.out 2).trans rfl; have hfz10_0 := blk_frozen BK120.out 0; have hfz10_1 := blk_frozen BK120.out 1; have hfz10_2 := blk_frozen BK120.out 2))
       go_roundg k1
       case measure => have := HK1.out; omega
       case rel => exact ⟨(wrap64 (x5_1 + (wrap64 ((((rd_T39 l0 x10_1).f2).size : Int) - (wrap64 (((rd_T39 l0 x10_1).f1) - ((rd_T39 l0 x10_1).f0))))))), (wrap64 (x10_1 + 1)), (by first | rfl | (simp; done) | (simp [*]; done)), (by first | rfl | (simp; done) | (simp [*]; done)), H', ⟨by have := HK1.out; omega⟩, ⟨by repeat (first | (with_reducible first | exact HB.out | apply below_alloc | apply pw_below_drewN | apply below_drew1 | refine below_set ?_ GE120.out) | exact HB.out)⟩⟩
     ·rw [if_neg c5] at H; exact absurd H (by simp)
    ·rw [if_neg c4] at H; exact absurd H (by simp)
   ·rw [if_neg c3] at H; have c3b0 : decide (x10_1 < (l0.length : Int)) = false := decide_eq_false c3; clear c3; obtain rfl := Option.some.inj H; go_wp2; go_ret; exact ⟨by first | rfl | (simp [errW_none, errW_some] <;> rfl) | (simp [*, errW_none, errW_some] <;> rfl), by repeat (first | (with_reducible first | exact HB.out | apply below_alloc | apply pw_below_drewN | apply below_drew1) | exact HB.out)⟩

end Go.Proofs.Ytahcpappailjgaa.P

set_option linter.unusedVariables false
set_option linter.unusedSimpArgs false
namespace Go.Proofs.Ytahcpappailjgaa.SortW
open Go Go.RowKit Go.Proofs.Ytahcpappailjgaa Go.Proofs.Ytahcpappailjgaa.P Go.Proofs.YtahcpappailjgaaW.PrintWords Go.Proofs.YtahcpappailjgaaW.PrintLast Go.Proofs.YtahcpappailjgaaW.PrintMore
open Go.Proofs.Ytahcpappailjgaa.SortP
abbrev Pt := S87
def lo : Int → List Pt → Int
 | a, [] => a
 | a, p :: r => lo (mn a p.f0) r
def hi : Int → List Pt → Int
 | a, [] => a
 | a, p :: r => hi (mx a p.f1) r
def reach : List Pt → Int × Int
 | [] => (0, 0)
 | p :: r => (lo p.f0 (p :: r), hi p.f1 (p :: r))
/-- Parts of spans that are in a text. -/
def Bd (l : List Pt) : Prop := ∀ p ∈ l, 0 ≤ p.f0 ∧ p.f0 ≤ p.f1 ∧ p.f1 ≤ 20000
theorem lo_bd : ∀ (l : List Pt) (a : Int), Bd l → 0 ≤ a → a ≤ 20000 → 0 ≤ lo a l ∧ lo a l ≤ 20000
 | [], a, _, h0, h1 => ⟨h0, h1⟩
 | p :: r, a, hb, h0, h1 => by
  have hp := hb p List.mem_cons_self
  have hm : 0 ≤ mn a p.f0 ∧ mn a p.f0 ≤ 20000 := (by unfold mn; split <;> omega)
  exact lo_bd r _ (fun q hq => hb q (List.mem_cons_of_mem _ hq)) hm.1 hm.2
theorem hi_bd : ∀ (l : List Pt) (a : Int), Bd l → 0 ≤ a → a ≤ 20000 → 0 ≤ hi a l ∧ hi a l ≤ 20000
 | [], a, _, h0, h1 => ⟨h0, h1⟩
 | p :: r, a, hb, h0, h1 => by
  have hp := hb p List.mem_cons_self
  have hm : 0 ≤ mx a p.f1 ∧ mx a p.f1 ≤ 20000 := (by unfold mx; split <;> omega)
  exact hi_bd r _ (fun q hq => hb q (List.mem_cons_of_mem _ hq)) hm.1 hm.2
theorem reach_bd {l : List Pt} (h : Bd l) : (0 ≤ (reach l).1 ∧ (reach l).1 ≤ 20000) ∧ 0 ≤ (reach l).2 ∧ (reach l).2 ≤ 20000 := by
 cases l with
 | nil => exact ⟨⟨by decide, by decide⟩, by decide, by decide⟩
 | cons p r =>
  have hp := h p List.mem_cons_self; exact ⟨lo_bd (p :: r) p.f0 h (by omega) (by omega), hi_bd (p :: r) p.f1 h (by omega) (by omega)⟩
theorem rd_pt {l : List Pt} {i : Nat} {e : Pt} {r : List Pt} (h : l.drop i = e :: r) : rd_T87 l (i : Int) = e := by
 have h1 : l[i]? = some e := by
  have := congrArg (fun x => x[0]?) h
  simpa [List.getElem?_drop] using this
 simp [rd_T87, List.getD_eq_getElem?_getD, h1]
theorem reach_loop (l : List Pt) (hl : l.length ≤ 1000000) : ∀ (r : List Pt) (i : Nat) (a b : Int), l.drop i = r → Ev (fun k => rope_reach.l0 k a b l (l.length : Int) (i : Int)) (lo a r, hi b r) := by
 intro r
 induction r with
 | nil =>
  intro i a b h
  have hle : l.length ≤ i := by
   rcases Nat.lt_or_ge i l.length with q | q
   ·rw [List.drop_eq_getElem_cons q] at h; cases h
   ·exact q
  refine Ev.shift ?_; simp only [rope_reach.l0]; exact Ev.neg (by omega) (Ev.now _)
 | cons e r ih =>
  intro i a b h
  have hlt : i < l.length := by
   rcases Nat.lt_or_ge i l.length with q | q
   ·exact q
   ·rw [List.drop_of_length_le q] at h; cases h
  have hn : l.drop (i + 1) = r := by
   rw [List.drop_eq_getElem_cons hlt] at h; injection h
  refine Ev.shift ?_; simp only [rope_reach.l0]; rw [rd_pt h, w64 (n := (i : Int) + 1) (by omega) (by omega)]; exact Ev.pos (by omega) (Ev.pos (by omega) (Ev.pos (by omega) (ih (i + 1) _ _ hn)))
theorem reach_ev (l : List Pt) (hl : l.length ≤ 1000000) (h0 : 0 < l.length) : Ev (fun k => rope_reach.f k l) (reach l) := by
 cases l with
 | nil => cases h0
 | cons p r =>
  unfold rope_reach.f; rw [show (rd_T87 (p :: r) 0) = p from rfl]; exact Ev.pos (by omega) (reach_loop (p :: r) hl (p :: r) 0 _ _ rfl)
/-- A slice of parts that lies in w0, not in block g. -/
def Grp (w0 : World) (g : Nat) (x : List Pt) (A : Option Addr) (n c : Nat) : Prop := n = x.length ∧ x.length ≤ c ∧ 0 < x.length ∧ x.length ≤ 1000000 ∧ Bd x ∧ Kd.C k87 w0 A x.length x ∧ ∀ ad, A = some ad → ad.block ≠ g
def key (x : List Pt) : Int := (reach x).1 * 1000000 + (reach x).2
theorem C_grown {w0 w : World} {g : Nat} {A : Option Addr} {n : Nat} {x : List Pt} (h : Kd.C k87 w0 A n x) (hg : w0.grownBy w (some g)) (ha : ∀ ad, A = some ad → ad.block ≠ g) : Kd.C k87 w A n x := by
 refine ⟨h.1, h.2.1, fun hn => ?_⟩; obtain ⟨ad, e, hc⟩ := h.2.2 hn; refine ⟨ad, e, fun j p hj => ?_⟩; obtain ⟨c, h1, h2, h3⟩ := hc j p hj; refine ⟨c, h1, ?_, fun i u hu => ?_⟩
 ·obtain rfl := k87_open h2; exact k87_mk w p
 ·have h4 := h3 i u hu; have hlt := World.block_lt_of_cell? w0 _ h4
  have hb := hg.block _ hlt (fun q => ha ad e (by
   have q2 := Option.some.inj q; rw [← q2]; unfold Addr.add
   split <;> rfl))
  exact (World.cell?_of_block hb).trans h4
set_option maxHeartbeats 8000000 in
set_option maxRecDepth 100000 in
theorem cmp_ok (g N : Nat) (w0 : World) : CmpOK ⟨Grp w0 g, N⟩ key g w0 := by
 intro w x y A n c A' n' c' hg hx hy; obtain ⟨rfl, hx1, hx2, hx3, hx4, hx5, hx6⟩ := hx; obtain ⟨rfl, hy1, hy2, hy3, hy4, hy5, hy6⟩ := hy; obtain ⟨K1, hK1⟩ := reach_ev x hx3 hx2; obtain ⟨K2, hK2⟩ := reach_ev y hy3 hy2; have hb1 := reach_bd hx4; have hb2 := reach_bd hy4; have HC1 := Aside0.mk (rope_reach.calls K1 A c x (reach x).1 (reach x).2 w (C_grown hx5 hg hx6) hx1 (hK1 K1 (Nat.le_refl _))); have HC2 := Aside0.mk (fun (w2 : World) (hb : Below w.heap.size w w2) => rope_reach.calls K2 A' c' y (reach y).1 (reach y).2 w2 (Kd.C_below (C_grown hy5 hg hy6) hb) hy1 (hK2 K2 (Nat.le_refl _))); have hkx : key x = (reach x).1 * 1000000 + (reach x).2 := rfl; have hky : key y = (reach y).1 * 1000000 + (reach y).2 := rfl; have HK := Aside0.mk (And.intro hkx hky); clear hx5 hy5 hK1 hK2 hg hkx hky; generalize (reach x).1 = f at *; generalize (reach x).2 = t at *; generalize (reach y).1 = f' at *; generalize (reach y).2 = t' at *; obtain ⟨⟨b1, b2⟩, b3, b4⟩ := hb1; obtain ⟨⟨b5, b6⟩, b7, b8⟩ := hb2
 have v1 : IntKind.i64.wrap (f - f') = f - f' := (by rw [i64_w]; unfold wrap64; omega)
 have v2 : IntKind.i64.wrap (t - t') = t - t' := (by rw [i64_w]; unfold wrap64; omega)
 by_cases hff : f = f'
 ·have d1 : (f != f') = false := bne_eq_false_iff_eq.mpr hff; have HFF := Aside0.mk hff; clear hff; go_enter Try.func70, Try.ntmps70
  go_upto_region 2 with (go_at_call 71; refine HC1.out.mono ?_; rintro e w5 ⟨rfl, h5⟩; have HB5 := Aside0.mk h5; clear h5)
  go_wp2_with (go_at_call 71; refine (HC2.out _ HB5.out).mono ?_; rintro e w6 ⟨rfl, h6⟩; have HB6 := Aside0.mk (Kx.below_step HB5.out h6); clear h6)
  go_ret; exact ⟨t - t', rfl, by rw [HK.out.1, HK.out.2, HFF.out]; omega, HB6.out⟩
 ·have d1 : (f != f') = true := bne_iff_ne.mpr hff; have HFF := Aside0.mk hff; clear hff; go_enter Try.func70, Try.ntmps70
  go_upto_region 2 with (go_at_call 71; refine HC1.out.mono ?_; rintro e w5 ⟨rfl, h5⟩; have HB5 := Aside0.mk h5; clear h5)
  go_wp2_with (go_at_call 71; refine (HC2.out _ HB5.out).mono ?_; rintro e w6 ⟨rfl, h6⟩; have HB6 := Aside0.mk (Kx.below_step HB5.out h6); clear h6)
  go_ret; exact ⟨f - f', rfl, by rw [HK.out.1, HK.out.2]; have := HFF.out; omega, HB6.out⟩
end Go.Proofs.Ytahcpappailjgaa.SortW

set_option linter.unusedVariables false
namespace Go.Proofs.Ytahcpappailjgaa.SortW
open Go.Proofs.Ytahcpappailjgaa.SortP Go.Proofs.Ytahcpappailjgaa.P
def insG (x : List Pt) : List (List Pt) → List (List Pt)
 | [] => [x]
 | y :: r => if key y ≤ key x then y :: insG x r else x :: y :: r
def srtG (l : List (List Pt)) : List (List Pt) := l.foldl (fun acc x => insG x acc) []
def insZ (x : List Pt × Nat) : List (List Pt × Nat) → List (List Pt × Nat)
 | [] => [x]
 | y :: r => if key y.1 ≤ key x.1 then y :: insZ x r else x :: y :: r
theorem insZ_fst (x : List Pt × Nat) : ∀ l, (insZ x l).map Prod.fst = insG x.1 (l.map Prod.fst)
 | [] => rfl
 | y :: r => by
  simp only [insZ, List.map_cons, insG]
  split
  ·rw [List.map_cons, insZ_fst x r]
  ·rfl
theorem insZ_perm (x : List Pt × Nat) : ∀ l, (insZ x l).Perm (x :: l)
 | [] => List.Perm.refl _
 | y :: r => by
  simp only [insZ]
  split
  ·exact ((insZ_perm x r).cons y).trans (List.Perm.swap x y r)
  ·exact List.Perm.refl _
theorem insZ_srt (x : List Pt × Nat) : ∀ l : List (List Pt × Nat), Srt (fun p => key p.1) Prod.snd l → (∀ y ∈ l, y.2 < x.2) → Srt (fun p => key p.1) Prod.snd (insZ x l)
 | [], _, _ => List.pairwise_singleton _ _
 | y :: r, h, ht => by
  have hh := List.pairwise_cons.mp h; simp only [insZ]
  split
  ·rename_i c
   refine List.pairwise_cons.mpr ⟨fun z hz => ?_, insZ_srt x r hh.2 (fun z hz => ht z (List.mem_cons_of_mem _ hz))⟩
   rcases List.mem_cons.mp ((insZ_perm x r).mem_iff.mp hz) with q | q
   ·subst q; have := ht y List.mem_cons_self; simp only [SortP.lt]
    omega
   ·exact hh.1 z q
  ·rename_i c
   refine List.pairwise_cons.mpr ⟨fun z hz => ?_, h⟩
   rcases List.mem_cons.mp hz with q | q
   ·subst q; simp only [SortP.lt]
    omega
   ·have := hh.1 z q; simp only [SortP.lt] at this ⊢
    omega
theorem foldZ : ∀ (l : List (List Pt)) (n : Nat) (acc : List (List Pt × Nat)), Srt (fun p => key p.1) Prod.snd acc → (∀ y ∈ acc, y.2 < n) →
  ∃ S, S.Perm (acc ++ l.zipIdx n) ∧ Srt (fun p => key p.1) Prod.snd S ∧ S.map Prod.fst = l.foldl (fun a x => insG x a) (acc.map Prod.fst)
 | [], n, acc, h, _ => ⟨acc, by simp, h, rfl⟩
 | x :: l, n, acc, h, ht => by
  obtain ⟨S, h1, h2, h3⟩ := foldZ l (n + 1) (insZ (x, n) acc) (insZ_srt _ _ h (fun y hy => ht y hy)) (fun y hy => by
   rcases List.mem_cons.mp ((insZ_perm (x, n) acc).mem_iff.mp hy) with q | q
   ·subst q; exact Nat.lt_succ_self n
   ·exact Nat.lt_succ_of_lt (ht y q))
  refine ⟨S, h1.trans ?_, h2, ?_⟩
  ·rw [List.zipIdx_cons]; refine ((insZ_perm (x, n) acc).append_right _).trans ?_; exact (List.perm_middle (a := (x, n)) (l₁ := acc) (l₂ := l.zipIdx (n + 1))).symm
  ·rw [h3, insZ_fst]; rfl
theorem srt_is {l : List (List Pt)} {S : List (List Pt × Nat)} (hp : S.Perm l.zipIdx) (hs : Srt (fun p => key p.1) Prod.snd S) : S.map Prod.fst = srtG l := by
 obtain ⟨S', h1, h2, h3⟩ := foldZ l 0 [] List.Pairwise.nil (fun y hy => by cases hy); have he := srt_eq hs h2 (hp.trans (by simpa using h1.symm)); rw [he, h3]; rfl
end Go.Proofs.Ytahcpappailjgaa.SortW

set_option linter.unusedVariables false
namespace Go.Proofs.Ytahcpappailjgaa.MgS
open Go.Proofs.Ytahcpappailjgaa.LabP Go.Proofs.Ytahcpappailjgaa.MgL Go.Proofs.Ytahcpappailjgaa.SortW Go.Proofs.Ytahcpappailjgaa.SortP Go.Proofs.Ytahcpappailjgaa.P
def zP : Pt := ⟨0, 0, false, ⟨0, 0, ⟨#[]⟩⟩⟩
def pt (all : List Pt) (k : Nat) : Pt := all.getD k zP
def ixs (g : List Nat) (n l : Nat) : List Nat := (List.range n).filter (fun k => lab g k == l)
def cls (all : List Pt) (g : List Nat) (l : Nat) : List Pt := (ixs g all.length l).map (pt all)
def labs (all : List Pt) (g : List Nat) : List Nat := (List.range all.length).filter (fun l => !(cls all g l).isEmpty)
def rowsG (all : List Pt) (g : List Nat) : List (List Pt) := (labs all g).map (cls all g)
theorem mem_ixs {g : List Nat} {n l k : Nat} : k ∈ ixs g n l ↔ k < n ∧ lab g k = l := by simp [ixs]
theorem ixs_lt (g : List Nat) (n l : Nat) : (ixs g n l).Pairwise (· < ·) := List.Pairwise.filter _ List.pairwise_lt_range
/-- Two rising lists with the same members are one. -/
theorem rise_eq : ∀ {l m : List Nat}, l.Pairwise (· < ·) → m.Pairwise (· < ·) → (∀ k, k ∈ l ↔ k ∈ m) → l = m
 | [], [], _, _, _ => rfl
 | [], y :: m, _, _, h => absurd ((h y).mpr List.mem_cons_self) (by simp)
 | x :: l, [], _, _, h => absurd ((h x).mp List.mem_cons_self) (by simp)
 | x :: l, y :: m, hl, hm, h => by
  have hx := List.pairwise_cons.mp hl; have hy := List.pairwise_cons.mp hm
  have e : x = y := by
   rcases List.mem_cons.mp ((h x).mp List.mem_cons_self) with q | q
   ·exact q
   ·rcases List.mem_cons.mp ((h y).mpr List.mem_cons_self) with r | r
    ·exact r.symm
    ·have h1 := hy.1 x q; have h2 := hx.1 y r
     omega
  subst e; refine congrArg (x :: ·) (rise_eq hx.2 hy.2 fun k => ?_)
  constructor
  ·intro q
   rcases List.mem_cons.mp ((h k).mp (List.mem_cons_of_mem _ q)) with r | r
   ·have := hx.1 k q
    omega
   ·exact r
  ·intro q
   rcases List.mem_cons.mp ((h k).mpr (List.mem_cons_of_mem _ q)) with r | r
   ·have := hy.1 k q
    omega
   ·exact r
/-- lo and hi of a row. -/
theorem lo_spec : ∀ (l : List Pt) (x : Int), lo x l ≤ x ∧ (∀ p ∈ l, lo x l ≤ p.f0) ∧ (lo x l = x ∨ ∃ p ∈ l, lo x l = p.f0)
 | [], x => ⟨Int.le_refl _, fun p hp => absurd hp (by simp), .inl rfl⟩
 | p :: r, x => by
  have h := lo_spec r (YtahcpappailjgaaW.PrintWords.mn x p.f0)
  have hm : (YtahcpappailjgaaW.PrintWords.mn x p.f0 = x ∧ x ≤ p.f0) ∨ (YtahcpappailjgaaW.PrintWords.mn x p.f0 = p.f0 ∧ p.f0 ≤ x) := (by unfold YtahcpappailjgaaW.PrintWords.mn; split <;> omega)
  simp only [lo]; generalize YtahcpappailjgaaW.PrintWords.mn x p.f0 = m at *; obtain ⟨h1, h2, h3⟩ := h; refine ⟨by omega, fun q hq => ?_, ?_⟩
  ·rcases List.mem_cons.mp hq with e | e
   ·subst e; omega
   ·exact h2 q e
  ·rcases h3 with e | ⟨q, hq, e⟩
   ·rcases hm with c | c
    ·exact .inl (e.trans c.1)
    ·exact .inr ⟨p, List.mem_cons_self, e.trans c.1⟩
   ·exact .inr ⟨q, List.mem_cons_of_mem _ hq, e⟩
theorem hi_spec : ∀ (l : List Pt) (x : Int), x ≤ hi x l ∧ (∀ p ∈ l, p.f1 ≤ hi x l) ∧ (hi x l = x ∨ ∃ p ∈ l, hi x l = p.f1)
 | [], x => ⟨Int.le_refl _, fun p hp => absurd hp (by simp), .inl rfl⟩
 | p :: r, x => by
  have h := hi_spec r (YtahcpappailjgaaW.PrintWords.mx x p.f1)
  have hm : (YtahcpappailjgaaW.PrintWords.mx x p.f1 = x ∧ p.f1 ≤ x) ∨ (YtahcpappailjgaaW.PrintWords.mx x p.f1 = p.f1 ∧ x ≤ p.f1) := (by unfold YtahcpappailjgaaW.PrintWords.mx; split <;> omega)
  simp only [hi]; generalize YtahcpappailjgaaW.PrintWords.mx x p.f1 = m at *; obtain ⟨h1, h2, h3⟩ := h; refine ⟨by omega, fun q hq => ?_, ?_⟩
  ·rcases List.mem_cons.mp hq with e | e
   ·subst e; omega
   ·exact h2 q e
  ·rcases h3 with e | ⟨q, hq, e⟩
   ·rcases hm with c | c
    ·exact .inl (e.trans c.1)
    ·exact .inr ⟨p, List.mem_cons_self, e.trans c.1⟩
   ·exact .inr ⟨q, List.mem_cons_of_mem _ hq, e⟩
theorem reach_spec {l : List Pt} (h : l ≠ []) : (∀ p ∈ l, (reach l).1 ≤ p.f0 ∧ p.f1 ≤ (reach l).2) ∧ (∃ p ∈ l, (reach l).1 = p.f0) ∧ ∃ p ∈ l, (reach l).2 = p.f1 := by
 cases l with
 | nil => exact absurd rfl h
 | cons p r =>
  obtain ⟨h1, h2, h3⟩ := lo_spec (p :: r) p.f0; obtain ⟨k1, k2, k3⟩ := hi_spec (p :: r) p.f1; refine ⟨fun q hq => ⟨h2 q hq, k2 q hq⟩, ?_, ?_⟩
  ·rcases h3 with e | e
   ·exact ⟨p, List.mem_cons_self, e⟩
   ·exact e
  ·rcases k3 with e | e
   ·exact ⟨p, List.mem_cons_self, e⟩
   ·exact e
section
variable {all : List Pt} {g : List Nat} {n1 : Nat}
def A (all : List Pt) (k : Nat) : Int := (pt all k).f0
def B (all : List Pt) (k : Nat) : Int := (pt all k).f1
def precC (all : List Pt) (g : List Nat) (n1 l l' : Nat) : Prop := ∀ k ∈ ixs g all.length l, ∀ k' ∈ ixs g all.length l', prec n1 (A all) (B all) k k'
theorem cls_mem {l : Nat} {p : Pt} : p ∈ cls all g l ↔ ∃ k, k < all.length ∧ lab g k = l ∧ pt all k = p := by
 simp only [cls, List.mem_map, mem_ixs, and_assoc]
theorem cls_ne {l : Nat} : cls all g l ≠ [] ↔ ∃ k, k < all.length ∧ lab g k = l := by
 constructor
 ·intro h; obtain ⟨p, hp⟩ := List.exists_mem_of_ne_nil _ h; obtain ⟨k, h1, h2, _⟩ := cls_mem.mp hp; exact ⟨k, h1, h2⟩
 ·rintro ⟨k, h1, h2⟩ e; have := cls_mem.mpr ⟨k, h1, h2, rfl⟩; rw [e] at this
  cases this
theorem mem_labs {l : Nat} : l ∈ labs all g ↔ l < all.length ∧ ∃ k, k < all.length ∧ lab g k = l := by
 rw [← cls_ne]
 simp [labs]
theorem lab_self (hD : Done n1 all.length (A all) (B all) g) {l : Nat} (h : l ∈ labs all g) : l < all.length ∧ lab g l = l := by
 obtain ⟨h1, k, h2, h3⟩ := mem_labs.mp h; have := hD.lb.fix k (by rw [hD.len]; exact h2); rw [h3] at this; exact ⟨h1, this⟩
theorem class_cmp (hP : Pos n1 all.length (A all) (B all)) (hD : Done n1 all.length (A all) (B all) g) {l l' : Nat} (h : l ∈ labs all g) (h' : l' ∈ labs all g) (hne : l ≠ l') : precC all g n1 l l' ∨ precC all g n1 l' l := by
 obtain ⟨a1, a2⟩ := lab_self hD h; obtain ⟨b1, b2⟩ := lab_self hD h'
 have hl : lab g l ≠ lab g l' := (by rw [a2, b2]; exact hne)
 rcases prec_total hP hD a1 b1 hl with c | c
 ·exact .inl fun k hk k' hk' => by
   obtain ⟨k1, k2⟩ := mem_ixs.mp hk; obtain ⟨k3, k4⟩ := mem_ixs.mp hk'; exact prec_class hP hD a1 k1 b1 k3 (by rw [a2, k2]) (by rw [b2, k4]) hl c
 ·exact .inr fun k hk k' hk' => by
   obtain ⟨k1, k2⟩ := mem_ixs.mp hk; obtain ⟨k3, k4⟩ := mem_ixs.mp hk'; exact prec_class hP hD b1 k1 a1 k3 (by rw [b2, k2]) (by rw [a2, k4]) (fun e => hl e.symm) c
theorem class_key (hb : Bd all) (hP : Pos n1 all.length (A all) (B all)) (hD : Done n1 all.length (A all) (B all) g) {l l' : Nat} (h : l ∈ labs all g) (h' : l' ∈ labs all g) (hp : precC all g n1 l l') : key (cls all g l) < key (cls all g l') ∨ key (cls all g l) = key (cls all g l') ∧ l < l' := by
 obtain ⟨a1, a2⟩ := lab_self hD h; obtain ⟨b1, b2⟩ := lab_self hD h'; have n1_ := cls_ne.mpr (mem_labs.mp h).2; have n2_ := cls_ne.mpr (mem_labs.mp h').2; obtain ⟨r1, ⟨p1, m1, e1⟩, p2, m2, e2⟩ := reach_spec n1_; obtain ⟨s1, ⟨q1, m3, e3⟩, q2, m4, e4⟩ := reach_spec n2_
 have hbd : ∀ {i : Nat}, Bd (cls all g i) := fun {i} p hp => by
  obtain ⟨k, k1, k2, k3⟩ := cls_mem.mp hp; refine hb p ?_; rw [← k3, pt, List.getD_eq_getElem?_getD, List.getElem?_eq_getElem k1]; exact List.getElem_mem k1
 have w1 := reach_bd (hbd (i := l)); have w2 := reach_bd (hbd (i := l')); obtain ⟨k1, x1, x2, x3⟩ := cls_mem.mp m3; obtain ⟨k2, y1, y2, y3⟩ := cls_mem.mp m2; have hl1 := mem_ixs.mpr ⟨a1, a2⟩; have hl2 := mem_ixs.mpr ⟨b1, b2⟩; have g1 := prec_le hP a1 x1 (hp l hl1 k1 (mem_ixs.mpr ⟨x1, x2⟩)); have g2 := prec_le hP y1 b1 (hp k2 (mem_ixs.mpr ⟨y1, y2⟩) l' hl2); have t1 := (r1 (pt all l) (cls_mem.mpr ⟨l, a1, a2, rfl⟩)).1; have t2 := (s1 (pt all l') (cls_mem.mpr ⟨l', b1, b2, rfl⟩)).2
 have f1 : A all k1 = q1.f0 := (by unfold A; rw [x3])
 have f2 : B all k2 = p2.f1 := (by unfold B; rw [y3])
 have f3 : A all l = (pt all l).f0 := rfl; have f4 : B all l' = (pt all l').f1 := rfl; unfold key; by_cases c : (reach (cls all g l)).1 < (reach (cls all g l')).1
 ·left; omega
 ·by_cases d : (reach (cls all g l)).2 < (reach (cls all g l')).2
  ·left; omega
  ·right
   refine ⟨by omega, ?_⟩; have hpl := hp l hl1 l' hl2; by_cases e : (l < n1 ↔ l' < n1)
   ·unfold prec at hpl
    omega
   ·by_cases f : l < n1
    ·omega
    ·-- the one's least is a two, the other one's a one: then the one has twos alone
     have hlt : ∀ k, k < all.length → lab g k = l → ¬ k < n1 := fun k hk hkl hk1 => by
      have := hD.lb.le k (by rw [hD.len]; exact hk)
      omega
     have hk2 := hlt k2 y1 y2; have hp2 := hp k2 (mem_ixs.mpr ⟨y1, y2⟩) l' hl2; have h5 := (prec_le hP y1 b1 hp2).2.2 (by omega); have h6 := hP.hab l' b1
     omega
def insL (all : List Pt) (g : List Nat) (x : Nat) : List Nat → List Nat
 | [] => [x]
 | y :: r => if key (cls all g y) ≤ key (cls all g x) then y :: insL all g x r else x :: y :: r
def srtL (all : List Pt) (g : List Nat) (ls : List Nat) : List Nat := ls.foldl (fun acc x => insL all g x acc) []
theorem insL_map (x : Nat) : ∀ l : List Nat, (insL all g x l).map (cls all g) = insG (cls all g x) (l.map (cls all g))
 | [] => rfl
 | y :: r => by
  simp only [insL, List.map_cons, insG]
  split
  ·rw [List.map_cons, insL_map x r]
  ·rfl
theorem foldL_map : ∀ (ls acc : List Nat), (ls.foldl (fun acc x => insL all g x acc) acc).map (cls all g) = (ls.map (cls all g)).foldl (fun acc x => insG x acc) (acc.map (cls all g))
 | [], _ => rfl
 | x :: r, acc => by
  simp only [List.foldl_cons, List.map_cons]; rw [foldL_map r, insL_map]
theorem srtL_map (ls : List Nat) : (srtL all g ls).map (cls all g) = srtG (ls.map (cls all g)) := foldL_map ls []
theorem insL_mem (x : Nat) : ∀ (l : List Nat) (k : Nat), k ∈ insL all g x l ↔ k = x ∨ k ∈ l
 | [], k => by simp [insL]
 | y :: r, k => by
  simp only [insL]
  split
  ·rw [List.mem_cons, insL_mem x r k, List.mem_cons]
   constructor
   ·rintro (h | h | h)
    ·exact .inr (.inl h)
    ·exact .inl h
    ·exact .inr (.inr h)
   ·rintro (h | h | h)
    ·exact .inr (.inl h)
    ·exact .inl h
    ·exact .inr (.inr h)
  ·exact List.mem_cons
theorem precC_trans (hb : Bd all) (hP : Pos n1 all.length (A all) (B all)) (hD : Done n1 all.length (A all) (B all) g) {x y z : Nat} (hx : x ∈ labs all g) (hy : y ∈ labs all g) (hz : z ∈ labs all g) (h1 : precC all g n1 x y) (h2 : precC all g n1 y z) : precC all g n1 x z := by
 have k1 := class_key hb hP hD hx hy h1; have k2 := class_key hb hP hD hy hz h2
 have hne : x ≠ z := by
  rintro rfl
  omega
 rcases class_cmp hP hD hx hz hne with c | c
 ·exact c
 ·have k3 := class_key hb hP hD hz hx c
  omega
theorem insL_prec (hb : Bd all) (hP : Pos n1 all.length (A all) (B all)) (hD : Done n1 all.length (A all) (B all) g) {x : Nat} (hx : x ∈ labs all g) : ∀ l : List Nat, (∀ y ∈ l, y ∈ labs all g ∧ y < x) → l.Pairwise (precC all g n1) → (insL all g x l).Pairwise (precC all g n1)
 | [], _, _ => List.pairwise_singleton _ _
 | y :: r, hm, hp => by
  have hh := List.pairwise_cons.mp hp; obtain ⟨y1, y2⟩ := hm y List.mem_cons_self; simp only [insL]
  split
  ·rename_i c
   refine List.pairwise_cons.mpr ⟨fun z hz => ?_, insL_prec hb hP hD hx r (fun z hz => hm z (List.mem_cons_of_mem _ hz)) hh.2⟩
   rcases (insL_mem x r z).mp hz with q | q
   ·subst q
    rcases class_cmp hP hD y1 hx (by omega) with d | d
    ·exact d
    ·have := class_key hb hP hD hx y1 d
     omega
   ·exact hh.1 z q
  ·rename_i c
   have hxy : precC all g n1 x y := by
    rcases class_cmp hP hD y1 hx (by omega) with d | d
    ·have := class_key hb hP hD y1 hx d
     omega
    ·exact d
   refine List.pairwise_cons.mpr ⟨fun z hz => ?_, hp⟩
   rcases List.mem_cons.mp hz with q | q
   ·subst q; exact hxy
   ·exact precC_trans hb hP hD hx y1 (hm z (List.mem_cons_of_mem _ q)).1 hxy (hh.1 z q)
theorem fold_prec (hb : Bd all) (hP : Pos n1 all.length (A all) (B all)) (hD : Done n1 all.length (A all) (B all) g) : ∀ (ls acc : List Nat), (∀ x ∈ ls, x ∈ labs all g) → ls.Pairwise (· < ·) → (∀ y ∈ acc, y ∈ labs all g ∧ ∀ x ∈ ls, y < x) → acc.Pairwise (precC all g n1) →
  (ls.foldl (fun acc x => insL all g x acc) acc).Pairwise (precC all g n1) ∧ ∀ k, k ∈ ls.foldl (fun acc x => insL all g x acc) acc ↔ k ∈ acc ∨ k ∈ ls
 | [], acc, _, _, _, hp => ⟨hp, fun k => by simp⟩
 | x :: r, acc, hm, hl, ha, hp => by
  have hh := List.pairwise_cons.mp hl; have hx := hm x List.mem_cons_self
  obtain ⟨h1, h2⟩ := fold_prec hb hP hD r (insL all g x acc) (fun z hz => hm z (List.mem_cons_of_mem _ hz)) hh.2 (fun y hy => by
   rcases (insL_mem x acc y).mp hy with q | q
   ·subst q; exact ⟨hx, hh.1⟩
   ·exact ⟨(ha y q).1, fun z hz => (ha y q).2 z (List.mem_cons_of_mem _ hz)⟩) (insL_prec hb hP hD hx acc (fun y hy => ⟨(ha y hy).1, (ha y hy).2 x List.mem_cons_self⟩) hp)
  refine ⟨h1, fun k => ?_⟩; simp only [List.foldl_cons]; rw [h2 k, insL_mem, List.mem_cons]
  constructor
  ·rintro ((h | h) | h)
   ·exact .inr (.inl h)
   ·exact .inl h
   ·exact .inr (.inr h)
  ·rintro (h | h | h)
   ·exact .inl (.inr h)
   ·exact .inl (.inl h)
   ·exact .inr h
theorem srtL_prec (hb : Bd all) (hP : Pos n1 all.length (A all) (B all)) (hD : Done n1 all.length (A all) (B all) g) : (srtL all g (labs all g)).Pairwise (precC all g n1) ∧ ∀ k, k ∈ srtL all g (labs all g) ↔ k ∈ labs all g := by
 obtain ⟨h1, h2⟩ := fold_prec hb hP hD (labs all g) [] (fun x hx => hx) (List.Pairwise.filter _ List.pairwise_lt_range) (fun y hy => by cases hy) List.Pairwise.nil; exact ⟨h1, fun k => by rw [srtL, h2 k]; simp⟩
end
end Go.Proofs.Ytahcpappailjgaa.MgS

set_option linter.unusedVariables false
namespace Go.Proofs.Ytahcpappailjgaa.MgS
open Go.Proofs.Ytahcpappailjgaa.LabP Go.Proofs.Ytahcpappailjgaa.MgL Go.Proofs.Ytahcpappailjgaa.SortW Go.Proofs.Ytahcpappailjgaa.SortP Go.Proofs.Ytahcpappailjgaa.P
theorem rise_split (n1 : Nat) : ∀ L : List Nat, L.Pairwise (· < ·) → L = L.filter (fun k => decide (k < n1)) ++ L.filter (fun k => !decide (k < n1))
 | [], _ => rfl
 | x :: r, h => by
  have hh := List.pairwise_cons.mp h; have ih := rise_split n1 r hh.2; by_cases c : x < n1
  ·simp only [List.filter_cons, c, decide_true, if_true, Bool.not_true, Bool.false_eq_true, if_false, List.cons_append]; rw [← ih]
  ·have he : ∀ k ∈ r, ¬ k < n1 := fun k hk => by
    have := hh.1 k hk
    omega
   have h1 : r.filter (fun k => decide (k < n1)) = [] := by
    rw [List.filter_eq_nil_iff]; intro k hk
    simpa using Nat.le_of_not_lt (he k hk)
   have h2 : r.filter (fun k => !decide (k < n1)) = r := by
    rw [List.filter_eq_self]; intro k hk
    simpa using Nat.le_of_not_lt (he k hk)
   simp only [List.filter_cons, c, decide_false, Bool.false_eq_true, if_false, Bool.not_false, if_true, h1, h2, List.nil_append]
def Sep (G H : List Pt × List Pt) : Prop := (∀ p ∈ G.1, ∀ q ∈ H.2, p.f1 < q.f0) ∧ (∀ q ∈ G.2, ∀ p ∈ H.1, q.f1 < p.f0)
def osI (g : List Nat) (n n1 l : Nat) : List Nat := (ixs g n l).filter (fun k => decide (k < n1))
def tsI (g : List Nat) (n n1 l : Nat) : List Nat := (ixs g n l).filter (fun k => !decide (k < n1))
theorem mem_osI {g : List Nat} {n n1 l k : Nat} : k ∈ osI g n n1 l ↔ (k < n ∧ lab g k = l) ∧ k < n1 := by simp [osI, mem_ixs]
theorem mem_tsI {g : List Nat} {n n1 l k : Nat} : k ∈ tsI g n n1 l ↔ (k < n ∧ lab g k = l) ∧ ¬ k < n1 := by simp [tsI, mem_ixs]
section
variable {all : List Pt} {g : List Nat} {n1 : Nat}
theorem lab_mem (hD : Done n1 all.length (A all) (B all) g) {k : Nat} (hk : k < all.length) : lab g k ∈ labs all g := by
 have := hD.lb.le k (by rw [hD.len]; exact hk); exact mem_labs.mpr ⟨by omega, k, hk, rfl⟩
theorem os_flat (hb : Bd all) (hP : Pos n1 all.length (A all) (B all)) (hD : Done n1 all.length (A all) (B all) g) : ((srtL all g (labs all g)).map (osI g all.length n1)).flatten = List.range n1 := by
 obtain ⟨h1, h2⟩ := srtL_prec hb hP hD
 refine rise_eq (List.pairwise_flatten.mpr ⟨fun L hL => ?_, ?_⟩) List.pairwise_lt_range fun k => ?_
 ·obtain ⟨l, _, rfl⟩ := List.mem_map.mp hL; exact List.Pairwise.filter _ (ixs_lt _ _ _)
 ·rw [List.pairwise_map]
  refine h1.imp fun {l l'} hp x hx y hy => ?_
  obtain ⟨x1, x2⟩ := mem_osI.mp hx; obtain ⟨y1, y2⟩ := mem_osI.mp hy; have := hp x (mem_ixs.mpr x1) y (mem_ixs.mpr y1); unfold prec at this
  omega
 ·rw [List.mem_flatten, List.mem_range]; have hn := hP.hn
  constructor
  ·rintro ⟨L, hL, hk⟩; obtain ⟨l, _, rfl⟩ := List.mem_map.mp hL; exact (mem_osI.mp hk).2
  ·intro hk; exact ⟨osI g all.length n1 (lab g k), List.mem_map.mpr ⟨_, (h2 _).mpr (lab_mem hD (by omega)), rfl⟩, mem_osI.mpr ⟨⟨by omega, rfl⟩, hk⟩⟩
theorem ts_flat (hb : Bd all) (hP : Pos n1 all.length (A all) (B all)) (hD : Done n1 all.length (A all) (B all) g) : ((srtL all g (labs all g)).map (tsI g all.length n1)).flatten = (List.range (all.length - n1)).map (n1 + ·) := by
 obtain ⟨h1, h2⟩ := srtL_prec hb hP hD
 refine rise_eq (List.pairwise_flatten.mpr ⟨fun L hL => ?_, ?_⟩) ?_ fun k => ?_
 ·obtain ⟨l, _, rfl⟩ := List.mem_map.mp hL; exact List.Pairwise.filter _ (ixs_lt _ _ _)
 ·rw [List.pairwise_map]
  refine h1.imp fun {l l'} hp x hx y hy => ?_
  obtain ⟨x1, x2⟩ := mem_tsI.mp hx; obtain ⟨y1, y2⟩ := mem_tsI.mp hy; have := hp x (mem_ixs.mpr x1) y (mem_ixs.mpr y1); unfold prec at this
  omega
 ·rw [List.pairwise_map]
  exact List.pairwise_lt_range.imp fun h => by omega
 ·have hn := hP.hn; rw [List.mem_flatten]; simp only [List.mem_map, List.mem_range]
  constructor
  ·rintro ⟨L, ⟨l, _, rfl⟩, hk⟩; have := mem_tsI.mp hk; exact ⟨k - n1, by omega, by omega⟩
  ·rintro ⟨j, hj, rfl⟩; exact ⟨tsI g all.length n1 (lab g (n1 + j)), ⟨_, (h2 _).mpr (lab_mem hD (by omega)), rfl⟩, mem_tsI.mpr ⟨⟨by omega, rfl⟩, by omega⟩⟩
end
theorem pt_left {ones twos : List Pt} : (List.range ones.length).map (pt (ones ++ twos)) = ones := by
 apply List.ext_getElem
 ·simp
 ·intro i h1 h2; simp only [List.getElem_map, List.getElem_range, pt, List.getD_eq_getElem?_getD]; rw [List.getElem?_append_left h2, List.getElem?_eq_getElem h2]; rfl
theorem pt_right {ones twos : List Pt} : ((List.range ((ones ++ twos).length - ones.length)).map (ones.length + ·)).map (pt (ones ++ twos)) = twos := by
 apply List.ext_getElem
 ·simp
 ·intro i h1 h2; simp only [List.getElem_map, List.getElem_range, pt, List.getD_eq_getElem?_getD]; rw [List.getElem?_append_right (by omega), Nat.add_sub_cancel_left, List.getElem?_eq_getElem h2]; rfl
theorem mg_struct (ones twos : List Pt) (g : List Nat) (hb : Bd (ones ++ twos)) (hP : Pos ones.length (ones ++ twos).length (A (ones ++ twos)) (B (ones ++ twos))) (hD : Done ones.length (ones ++ twos).length (A (ones ++ twos)) (B (ones ++ twos)) g) :
  ∃ Gs : List (List Pt × List Pt), srtG (rowsG (ones ++ twos) g) = Gs.map (fun p => p.1 ++ p.2) ∧ (Gs.map Prod.fst).flatten = ones ∧ (Gs.map Prod.snd).flatten = twos ∧ Gs.Pairwise Sep ∧ ∀ p ∈ Gs, p.1 ++ p.2 ≠ [] := by
 obtain ⟨h1, h2⟩ := srtL_prec hb hP hD
 have hcls : ∀ l, cls (ones ++ twos) g l = (osI g (ones ++ twos).length ones.length l).map (pt (ones ++ twos)) ++ (tsI g (ones ++ twos).length ones.length l).map (pt (ones ++ twos)) := fun l => by
  rw [← List.map_append, cls, osI, tsI, ← rise_split _ _ (ixs_lt _ _ _)]
 refine ⟨(srtL (ones ++ twos) g (labs (ones ++ twos) g)).map fun l => ((osI g (ones ++ twos).length ones.length l).map (pt (ones ++ twos)), (tsI g (ones ++ twos).length ones.length l).map (pt (ones ++ twos))), ?_, ?_, ?_, ?_, ?_⟩
 ·rw [rowsG, ← srtL_map, List.map_map]
  exact List.map_congr_left fun l _ => hcls l
 ·have := congrArg (List.map (pt (ones ++ twos))) (os_flat hb hP hD); rw [List.map_flatten, List.map_map, pt_left] at this; rw [List.map_map]; exact this
 ·have := congrArg (List.map (pt (ones ++ twos))) (ts_flat hb hP hD); rw [List.map_flatten, List.map_map, pt_right] at this; rw [List.map_map]; exact this
 ·rw [List.pairwise_map]
  refine h1.imp fun {l l'} hp => ⟨fun p hp1 q hq1 => ?_, fun q hq1 p hp1 => ?_⟩
  ·obtain ⟨k, hk, rfl⟩ := List.mem_map.mp hp1; obtain ⟨k', hk', rfl⟩ := List.mem_map.mp hq1; obtain ⟨x1, x2⟩ := mem_osI.mp hk; obtain ⟨y1, y2⟩ := mem_tsI.mp hk'; exact (prec_le hP x1.1 y1.1 (hp k (mem_ixs.mpr x1) k' (mem_ixs.mpr y1))).2.2 (by omega)
  ·obtain ⟨k, hk, rfl⟩ := List.mem_map.mp hq1; obtain ⟨k', hk', rfl⟩ := List.mem_map.mp hp1; obtain ⟨x1, x2⟩ := mem_tsI.mp hk; obtain ⟨y1, y2⟩ := mem_osI.mp hk'; exact (prec_le hP x1.1 y1.1 (hp k (mem_ixs.mpr x1) k' (mem_ixs.mpr y1))).2.2 (by omega)
 ·intro p hp; obtain ⟨l, hl, rfl⟩ := List.mem_map.mp hp
  show _ ++ _ ≠ []
  rw [← hcls l]; exact cls_ne.mpr (mem_labs.mp ((h2 l).mp hl)).2
end Go.Proofs.Ytahcpappailjgaa.MgS

set_option linter.unusedVariables false
set_option linter.unusedSimpArgs false
namespace Go.Proofs.Ytahcpappailjgaa.P
open Go Go.RowKit Go.Proofs.Ytahcpappailjgaa Go.Proofs.YtahcpappailjgaaW.PrintWords Go.Proofs.YtahcpappailjgaaW.PrintLast Go.Proofs.YtahcpappailjgaaW.PrintMore
def rope_part_68.f (l0 : List (List (S87))) : Option (List (S87)) := if l0.length ≤ 1000 ∧ l0.flatten.length ≤ 1000000000 then some l0.flatten else none
set_option maxHeartbeats 8000000 in
set_option maxRecDepth 100000 in
theorem rope_part_68.grow (n : Nat) (hn : n ≤ 1000000000) (w : World) : Calls Try.prog 89 #[.slice none 0 0, .int .i64 n] w fun e w' =>
  ∃ v, e = .returned v ∧ Kd.R k87 87 w' w.heap.size (fun _ => True) v [] ∧ Below w.heap.size w w' := by
 have hu := Try.underlying85
 have h1 : ¬ ((n : Int) < 0) := (by omega)
 have h2 : wrap64 ((0 : Int) - (0 : Int)) = 0 := (by unfold wrap64; omega)
 have h3 : wrap64 (n : Int) = (n : Int) := (by unfold wrap64; omega)
 by_cases h0 : n = 0
 ·subst h0; go_enter Try.func89, Try.ntmps89; go_wp2; go_ret; exact ⟨_, rfl, Kd.R_nil _ _ _ _ _, Below.refl _ _⟩
 ·obtain ⟨i0, hi, hzz⟩ := Option.map_eq_some_iff.1 (show (Try.prog.info? 87).map (fun i => (i.zero, i.size, i.bytes)) = some (some (.agg #[.int .i64 0, .int .i64 0, .bool false, .int .i64 0, .int .i64 0, .string ⟨#[]⟩]), 6, 56) by kernel_rfl); simp only [Prod.mk.injEq] at hzz; obtain ⟨hz0, hz1, hz2⟩ := hzz
  have h4 : (n : Int) > 0 := (by omega)
  have hrz : ∀ ty, (Builtin.append_ #[85, 3] ty #[.slice none 0 0, .int .i64 (n : Int)]).run Try.prog w =
    .ok (.slice (some ⟨w.heap.size, 0, none⟩) n (grownCap w n 0 87)) (w.drew.alloc (.cells (#[] ++ Builtin.zeroCells (Value.cells (.agg #[.int .i64 0, .int .i64 0, .bool false, .int .i64 0, .int .i64 0, .string ⟨#[]⟩])) n ++ Builtin.zeroCells (Value.cells (.agg #[.int .i64 0, .int .i64 0, .bool false, .int .i64 0, .int .i64 0, .string ⟨#[]⟩])) (grownCap w n 0 87 - n)) 87)) := fun ty => by
   have h := Lib.run_append_grow_zeros (P := Try.prog) w 85 3 ty 87 i0 (.agg #[.int .i64 0, .int .i64 0, .bool false, .int .i64 0, .int .i64 0, .string ⟨#[]⟩]) .i64 .i64 hu Try.underlying3 hi hz0 none 0 0 [] (run_firstCells_none w.drew i0.size 0 0 0) n (by omega) (by omega) (by omega) (by omega) (by rw [hz2]; omega) (growslice_fits (by omega) (by rw [hz2]; omega))
   simpa using h
  have hG1 : n ≤ grownCap w n 0 87 := grownCap_ge w _ _ _; have hG2 := grownCap_le_maxLen w n 0 87 (by unfold maxLen; omega); generalize grownCap w n 0 87 = G at hrz hG1 hG2
  have hG3 : G ≤ 9223372036854775807 := (by unfold maxLen at hG2; omega)
  have hcut := fun W : World => cut_to (P := Try.prog) 85 87 .i64 hu hi (some ⟨w.heap.size, 0, none⟩) n G 0 (by omega) (by omega) hG1 W
  have hR : Kd.R k87 87 (w.alloc (.cells (Builtin.zeroCells #[.int .i64 0, .int .i64 0, .bool false, .int .i64 0, .int .i64 0, .string ⟨#[]⟩] n ++ Builtin.zeroCells #[.int .i64 0, .int .i64 0, .bool false, .int .i64 0, .int .i64 0, .string ⟨#[]⟩] (G - n)) 87)).drew w.heap.size (fun _ => True) (.slice (some ⟨w.heap.size, 0, none⟩) 0 G) [] := by
   refine Kd.R_drew ⟨fun _ _ => trivial, [], ?_, Reps.none _ _⟩; exact World.ownsRow_made (size := 6) w _ G (Nat.le_refl _) hG2 (by rw [Array.size_append, size_zeroCells, size_zeroCells]; show n * 6 + (G - n) * 6 = G * 6; omega)
  have HR := Aside0.mk hR; have HB := Aside0.mk (show Below w.heap.size w (w.alloc (.cells (Builtin.zeroCells #[.int .i64 0, .int .i64 0, .bool false, .int .i64 0, .int .i64 0, .string ⟨#[]⟩] n ++ Builtin.zeroCells #[.int .i64 0, .int .i64 0, .bool false, .int .i64 0, .int .i64 0, .string ⟨#[]⟩] (G - n)) 87)).drew from below_drew (below_alloc (Below.refl _ _) _)); clear hR hz0 hz1 hz2 hi hG2; go_enter Try.func89, Try.ntmps89
  go_wp2_with (at_builtin; refine Lib.wpList_append_run _ rfl _ _ _ _ rfl _ _ rfl rfl _ _ (hrz _) ?_)
  all_goals (go_ret; exact ⟨_, rfl, HR.out, HB.out⟩)
def rope_part_68.tot (l : List (List (S87))) : Nat := l.flatten.length
theorem rope_part_68.tot_take (l : List (List (S87))) (i : Nat) (h : i < l.length) : rope_part_68.tot (l.take (i + 1)) = rope_part_68.tot (l.take i) + (l[i]).length := by
 unfold rope_part_68.tot; rw [List.take_succ_eq_append_getElem h, List.flatten_append, List.length_append]
 simp
theorem rope_part_68.tot_le (l : List (List (S87))) (i : Nat) : rope_part_68.tot (l.take i) ≤ l.flatten.length := by
 have : l.flatten.length = rope_part_68.tot (l.take i) + (l.drop i).flatten.length := by
  unfold rope_part_68.tot
  conv => lhs; rw [← List.take_append_drop i l]
  rw [List.flatten_append, List.length_append]
 omega
theorem rope_part_68.row {w : World} {A0 : Option Addr} {l0 : List (List (S87))} (h : Kd.C (Kd.slice 87 k87) w A0 l0.length l0) (i : Nat) (hi : i < l0.length) :
  ∃ ad A c, A0 = some ad ∧ w.cell? (ad.add i) = some (.slice A (l0[i]).length c) ∧ (l0[i]).length ≤ c ∧ Kd.C k87 w A (l0[i]).length l0[i] := by
 obtain ⟨ad, e, hj⟩ := h.2.2 (by omega); obtain ⟨cs, _, hk, hcell⟩ := hj i l0[i] (List.getElem?_eq_getElem hi); obtain ⟨A, c, rfl, hlc, hC⟩ := hk; refine ⟨ad, A, c, e, ?_, hlc, hC⟩; have := hcell 0 _ rfl
 simpa [Kd.slice] using this
set_option maxHeartbeats 8000000 in
set_option maxRecDepth 100000 in
theorem rope_part_68.calls (A0 : Option Addr) (c0 : Nat) (l0 : List (List (S87))) (r : List (S87)) (w : World) (hr0 : Kd.C (Kd.slice 87 k87) w A0 l0.length l0) (hc0 : l0.length ≤ c0) (h : rope_part_68.f l0 = some r) :
  Calls Try.prog 68 #[.slice A0 l0.length c0] w fun e w' => ∃ v0_ : Value, e = .returned v0_ ∧ Kd.R k87 87 w' w.heap.size (fun _ => True) v0_ r ∧ Below w.heap.size w w' := by
 have hl : (l0.length ≤ 1000 ∧ l0.flatten.length ≤ 1000000000) ∧ l0.flatten = r := by
  unfold rope_part_68.f at h; by_cases q : l0.length ≤ 1000 ∧ l0.flatten.length ≤ 1000000000
  ·rw [if_pos q] at h; exact ⟨q, Option.some.inj h⟩
  ·rw [if_neg q] at h; cases h
 clear h; obtain ⟨⟨hl1, hl2⟩, rfl⟩ := hl; have HL1 := Aside0.mk hl1; have HL2 := Aside0.mk hl2; have HC := Aside0.mk hr0; have hu := Try.underlying85; have hu2 := Try.underlying88; clear hr0 hl1 hl2; go_enter Try.func68, Try.ntmps68; go_wp2_with fail
 go_loopg [3, 11] l0.length (fun kq v3 v11 w' => ∃ (i : Nat), v11 = .int .i64 (i : Int) ∧ v3 = .int .i64 (rope_part_68.tot (l0.take i) : Int) ∧ Aside0 (i + kq = l0.length) ∧ w' = w)
 case atStart => exact ⟨0, rfl, rfl, ⟨by omega⟩, rfl⟩
 case round =>
  obtain ⟨i, rfl, rfl, HK, hw⟩ := hrel; replace hw := hw.symm; subst hw; have hmax : l0.length ≤ 1000 := HL1.out; by_cases hlt : i < l0.length
  ·obtain ⟨ad, A, c, e, hx, hlc, hC⟩ := rope_part_68.row HC.out i hlt; have hd : decide ((i : Int) < (l0.length : Int)) = true := decide_eq_true (by omega); subst e; have ht := rope_part_68.tot_take l0 i hlt; have ht2 := rope_part_68.tot_le l0 (i + 1)
   have hs : wrap64 ((rope_part_68.tot (l0.take i) : Int) + ((l0[i]).length : Int)) = (rope_part_68.tot (l0.take (i + 1)) : Int) := by
    have := HL2.out; rw [ht]; unfold wrap64; omega
   have hneg : decide ((rope_part_68.tot (l0.take (i + 1)) : Int) < 0) = false := decide_eq_false (by omega); clear ht ht2 hC hlc; have HK' := HK
   cases gk with
   | zero => exact absurd hlt (by have := HK.out; omega)
   | succ kq' =>
   go_wp2_with fail
   go_roundg kq'
   case measure => omega
   case rel => exact ⟨i + 1, by go_num, by rw [hs], ⟨by have := HK.out; omega⟩, rfl⟩
  ·have hd : decide ((i : Int) < (l0.length : Int)) = false := decide_eq_false (by omega); have hd2 : decide (i < l0.length) = false := decide_eq_false hlt; have hi : l0.take i = l0 := List.take_of_length_le (by omega); have HB0 := Aside0.mk (Below.refl w.heap.size w); rw [hi]; clear hi hlt HK
   go_wp2_with (go_at_call 89; refine (rope_part_68.grow (rope_part_68.tot l0) HL2.out _).mono ?_; rintro e w1 ⟨v1, rfl, hr1, hb1⟩; have HR1 := Aside0.mk hr1; have HB1 := Aside0.mk hb1; clear hr1 hb1)
   go_loopg [6, 27] l0.length (fun kq v6 v27 w' => ∃ (i : Nat), v27 = .int .i64 (i : Int) ∧ Aside0 (i + kq = l0.length) ∧ Aside0 (Kd.R k87 87 w' w.heap.size (fun _ => True) v6 (l0.take i).flatten) ∧ Aside0 (Below w.heap.size w w'))
   case atStart => exact ⟨0, rfl, ⟨by omega⟩, HR1, HB1⟩
   case round =>
    clear HR1 HB1; obtain ⟨i, rfl, HK, HR, HB⟩ := hrel; have hmax : l0.length ≤ 1000 := HL1.out; by_cases hlt : i < l0.length
    ·obtain ⟨ad, A, c, e, hx, hlc, hC⟩ := rope_part_68.row HC.out i hlt; have hd : decide ((i : Int) < (l0.length : Int)) = true := decide_eq_true (by omega); subst e; replace hx := (HB.out.cell (World.block_lt_of_cell? _ _ hx)).trans hx; have HC2 := Aside0.mk (Kd.C_below hC HB.out); have ht := rope_part_68.tot_take l0 i hlt; have ht2 := rope_part_68.tot_le l0 (i + 1); have HLN := Aside0.mk (show ((l0.take i).flatten.length + (l0[i]).length) * 56 ≤ 140737488355328 by have := HL2.out; unfold rope_part_68.tot at ht ht2; omega); have HF := Aside0.mk (show (l0.take (i + 1)).flatten = (l0.take i).flatten ++ l0[i] by rw [List.take_succ_eq_append_getElem hlt, List.flatten_append]; simp); have hinfo := Aside0.mk (show (Try.prog.info? 87).map (fun i => (i.zero, i.size, i.bytes)) = some (some (.agg #[.int .i64 0, .int .i64 0, .bool false, .int .i64 0, .int .i64 0, .string ⟨#[]⟩]), 6, 56) by kernel_rfl); clear ht ht2 hC hlc; generalize (l0.take i).flatten = acc at *; generalize l0[i] = row at *
     cases gk with
     | zero => exact absurd hlt (by have := HK.out; omega)
     | succ kq' =>
     go_wp2_with (at_builtin; refine Kd.R_append_rows k87 (w0 := w) w.heap.size rfl (.tmp 31) (.tmp 32) 85 87 (.agg #[.int .i64 0, .int .i64 0, .bool false, .int .i64 0, .int .i64 0, .string ⟨#[]⟩]) 56 rfl hu hinfo.out rfl (show 0 < 6 by decide) (by omega) _ acc row A row.length c (fun _ => True) (fun _ => False) rfl rfl HR.out HC2.out (fun x cs h => h) (fun _ hk => hk.elim) (fun _ _ => trivial) HB.out HB.out.size HLN.out ?_; intro v2 w2 hr2 hb2 hg2 hat2; have HR2 := Aside0.mk hr2; have HB2 := Aside0.mk hb2; clear hr2 hb2 hg2 hat2)
     go_roundg kq'
     case measure => omega
     case rel => exact ⟨i + 1, by go_num, ⟨by have := HK.out; omega⟩, ⟨by rw [HF.out]; exact HR2.out⟩, HB2⟩
    ·have hd : decide ((i : Int) < (l0.length : Int)) = false := decide_eq_false (by omega); have hd2 : decide (i < l0.length) = false := decide_eq_false hlt; have hi : l0.take i = l0 := List.take_of_length_le (by omega); rw [hi] at HR; go_wp2_with fail; go_ret; exact ⟨_, rfl, HR.out, HB.out⟩
end Go.Proofs.Ytahcpappailjgaa.P

set_option linter.unusedVariables false
set_option linter.unusedSimpArgs false
namespace Go.Proofs.Ytahcpappailjgaa.SortW
open Go Go.RowKit Go.Proofs.Ytahcpappailjgaa Go.Proofs.Ytahcpappailjgaa.P Go.Proofs.YtahcpappailjgaaW.PrintWords Go.Proofs.YtahcpappailjgaaW.PrintLast Go.Proofs.YtahcpappailjgaaW.PrintMore
open Go.Proofs.Ytahcpappailjgaa.SortP
abbrev tF68 : Value := .func (.func 70) #[] #[]
set_option maxHeartbeats 8000000 in
set_option maxRecDepth 100000 in
theorem ins_nil (A : Option Addr) (c : Nat) (w : World) : Calls Try.prog 94 #[.slice A 0 c, .int .i64 0, .int .i64 0, tF68] w fun e w' => e = .returned (.tuple #[]) ∧ w' = w := by
 go_enter Try.func94, Try.ntmps94; go_wp2_with fail
 go_loopg [8] 0 (fun kq v8 w' => v8 = .int .i64 1 ∧ w' = w)
 case atStart => exact ⟨rfl, rfl⟩
 case round =>
  obtain ⟨rfl, rfl⟩ := hrel; go_wp2_with fail; go_end0; exact ⟨rfl, rfl⟩
set_option maxHeartbeats 8000000 in
set_option maxRecDepth 100000 in
theorem stab_nil (A : Option Addr) (c : Nat) (w : World) : Calls Try.prog 90 #[.slice A 0 c, .int .i64 0, tF68] w fun e w' => e = .returned (.tuple #[]) ∧ w' = w := by
 have HI := Aside0.mk (ins_nil A c); go_enter Try.func90, Try.ntmps90; go_wp2_with fail
 go_loopg [7, 8] 0 (fun kq v7 v8 w' => v7 = .int .i64 0 ∧ v8 = .int .i64 20 ∧ w' = w)
 case atStart => exact ⟨rfl, rfl, rfl⟩
 case round =>
  obtain ⟨rfl, rfl, rfl⟩ := hrel
  go_wp2_with (go_at_call 94; refine (HI.out _).mono ?_; rintro e w5 ⟨rfl, rfl⟩)
  go_loopg [6] 0 (fun kq v6 w' => v6 = .int .i64 20 ∧ w' = w5)
  case atStart => exact ⟨rfl, rfl⟩
  case round =>
   obtain ⟨rfl, rfl⟩ := hrel; go_wp2_with fail; go_end0; exact ⟨rfl, rfl⟩
set_option maxHeartbeats 8000000 in
set_option maxRecDepth 100000 in
theorem sort_nil (A : Option Addr) (c : Nat) (w : World) : Calls Try.prog 69 #[.slice A 0 c, tF68] w fun e w' => e = .returned (.tuple #[]) ∧ w' = w := by
 have HI := Aside0.mk (stab_nil A c); go_enter Try.func69, Try.ntmps69
 go_wp2_with (go_at_call 90; refine (HI.out _).mono ?_; rintro e w5 ⟨rfl, rfl⟩)
 go_end0; exact ⟨rfl, rfl⟩
/-- Two rows of parts, laid as a row. -/
theorem rows_two {W : World} {A1 A2 : Option Addr} {c1 c2 : Nat} {ones twos : List Pt} (h1 : ones.length ≤ c1) (h2 : twos.length ≤ c2) (r1 : Kd.C k87 W A1 ones.length ones) (r2 : Kd.C k87 W A2 twos.length twos) :
  Kd.C (Kd.slice 87 k87) (W.alloc (.cells #[.slice A1 ones.length c1, .slice A2 twos.length c2] 85)) (some ⟨W.heap.size, 0, none⟩) 2 [ones, twos] := by
 have hb : Below W.heap.size W (W.alloc (.cells #[.slice A1 ones.length c1, .slice A2 twos.length c2] 85)) := below_alloc (Below.refl _ _) _; have hc := blk_new W (.cells #[.slice A1 ones.length c1, .slice A2 twos.length c2] 85); refine ⟨rfl, by decide, fun _ => ⟨_, rfl, fun j p hj => ?_⟩⟩
 match j, hj with
 | 0, hj =>
  injection hj with hj; subst hj; refine ⟨[.slice A1 ones.length c1], rfl, ⟨A1, c1, rfl, h1, Kd.C_below r1 hb⟩, fun i u hu => ?_⟩
  match i, hu with
  | 0, hu =>
   injection hu with hu; subst hu; exact (Lib.cell_of_heap hc 0).trans rfl
 | 1, hj =>
  injection hj with hj; subst hj; refine ⟨[.slice A2 twos.length c2], rfl, ⟨A2, c2, rfl, h2, Kd.C_below r2 hb⟩, fun i u hu => ?_⟩
  match i, hu with
  | 0, hu =>
   injection hu with hu; subst hu; exact (Lib.cell_of_heap hc 1).trans rfl
theorem zip_pairwise {α : Type} : ∀ (l : List α) (n : Nat), (l.zipIdx n).Pairwise fun x y => x.2 < y.2
 | [], _ => by simp
 | x :: r, n => by
  rw [List.zipIdx_cons, List.pairwise_cons]; refine ⟨fun y hy => ?_, zip_pairwise r (n + 1)⟩; obtain ⟨a, b⟩ := y; have := List.mem_zipIdx hy
  show n < b
  omega
theorem nodup_zip {α : Type} (l : List α) : (l.zipIdx.map Prod.snd).Nodup := by
 rw [List.Nodup, List.pairwise_map]; exact (zip_pairwise l 0).imp (fun h => Nat.ne_of_lt h)
theorem findIdx_tag {α : Type} {S : List (α × Nat)} (hn : (S.map Prod.snd).Nodup) {j : Nat} {q : α × Nat} (hj : S[j]? = some q) : S.findIdx (fun p => p.2 == q.2) = j := by
 obtain ⟨hlt, he⟩ := List.getElem?_eq_some_iff.1 hj; rw [List.findIdx_eq hlt]; refine ⟨by rw [he]; simp, fun i hi => ?_⟩; rw [List.Nodup, List.pairwise_map, List.pairwise_iff_getElem] at hn; have := hn i j (by omega) hlt hi; rw [he] at this; exact beq_eq_false_iff_ne.mpr this
theorem sort_rows (w : World) (base : Nat) (v : Value) (xs : List (List Pt)) (hS : Kd.S (Kd.slice 87 k87) 85 w base (fun _ => True) v xs) (hx : ∀ x ∈ xs, 0 < x.length ∧ x.length ≤ 1000000 ∧ Bd x) (hl : xs.length ≤ 100000) :
  Calls Try.prog 69 #[v, tF68] w fun e w' => e = .returned (.tuple #[]) ∧ Kd.S (Kd.slice 87 k87) 85 w' base (fun _ => True) v (srtG xs) ∧ w.grownBy w' v.ownBlock := by
 by_cases h0 : xs.length = 0
 ·have hxs : xs = [] := List.eq_nil_of_length_eq_zero h0; subst hxs; obtain ⟨A, c, rfl⟩ := Kd.S_slice hS; refine (sort_nil A c w).mono ?_; rintro e w' ⟨rfl, rfl⟩; exact ⟨rfl, hS, ⟨rfl, rfl, rfl, Nat.le_refl _, fun _ _ _ => rfl⟩⟩
 ·obtain ⟨f, hk0, inner, ⟨hil, ho2⟩, hr⟩ := hS; rw [List.length_zipIdx] at hil ho2
  rcases ho2 with ⟨_, hn⟩ | ⟨g, cap, cur, rfl, hg, hc, hncap, hmax, hsz, htake⟩
  ·exact absurd hn h0
  ·have hR : Row (⟨fun (p : List Pt × Nat) A n c => n = p.1.length ∧ 0 < p.1.length ∧ p.1.length ≤ 1000000 ∧ Bd p.1 ∧ Kd.R k87 87 w base (fun k => (True ∧ some k ≠ some g) ∧ f k = p.2) (.slice A n c) p.1, cur.size⟩ : Ent (List Pt × Nat)) w g xs.zipIdx := by
    refine ⟨cur, hc, rfl, fun i p hp => ?_⟩; have hM := hr.2 i p hp; rw [List.getElem?_zipIdx, Nat.zero_add] at hp; obtain ⟨x, hxi, rfl⟩ := Option.map_eq_some_iff.1 hp; obtain ⟨u, hu, hRu⟩ := hM; obtain ⟨A', c', rfl, hl', hC'⟩ := Kd.R_reads hRu; have hmem := hx x (List.mem_of_getElem? hxi); refine ⟨A', x.length, c', ?_, rfl, hmem.1, hmem.2.1, hmem.2.2, hRu⟩; have h5 := congrArg (fun z => z[0]?) hu; rw [← htake] at h5; have hlt := (List.getElem?_eq_some_iff.1 hxi).1
    have h6 : i * 1 + 0 < xs.length * 1 := (by omega)
    simp only [Kd.tag, Kd.slice] at h5; rw [List.getElem?_take_of_lt (by omega), List.getElem?_drop, List.getElem?_take_of_lt h6] at h5
    simpa using h5
   have toG : ∀ {x : List Pt} {m : Nat} {A : Option Addr} {n c : Nat}, (n = x.length ∧ 0 < x.length ∧ x.length ≤ 1000000 ∧ Bd x ∧ Kd.R k87 87 w base (fun k => (True ∧ some k ≠ some g) ∧ f k = m) (.slice A n c) x) → Grp w g x A n c := by
    rintro x m A n c ⟨rfl, h1, h2, h3, h4⟩; obtain ⟨_, h6, h7⟩ := Kd.R_reads' h4
    exact ⟨rfl, h6, h1, h2, h3, h7, fun ad e => by
     subst e; intro he
     exact (h4.1 ad.block rfl).1.2 (by rw [he])⟩
   have hlz : xs.length = xs.zipIdx.length := (by rw [List.length_zipIdx])
   refine (sortStable_ok (E := ⟨fun (p : List Pt × Nat) A n c => n = p.1.length ∧ 0 < p.1.length ∧ p.1.length ≤ 1000000 ∧ Bd p.1 ∧ Kd.R k87 87 w base (fun k => (True ∧ some k ≠ some g) ∧ f k = p.2) (.slice A n c) p.1, cur.size⟩) (fun p => key p.1) Prod.snd g cap xs.length xs.zipIdx w w (fun w1 x y A n c A' n' c' hg1 h1 h2 => cmp_ok g cur.size w w1 x.1 y.1 A n c A' n' c' hg1 (toG h1) (toG h2)) ⟨rfl, rfl, rfl, Nat.le_refl _, fun _ _ _ => rfl⟩ hlz hl (zip_pairwise xs 0) hR).mono ?_; rintro e w' ⟨rfl, ⟨S, hp, hs, hR'⟩, hgr⟩
   have hSl : S.length = xs.length := (by rw [hp.length_eq, List.length_zipIdx])
   have hnd : (S.map Prod.snd).Nodup := (hp.map Prod.snd).nodup_iff.mpr (nodup_zip xs); obtain ⟨arr, ha, hz, hE⟩ := hR'; replace hz : arr.size = cur.size := hz; refine ⟨rfl, ?_, hgr⟩; rw [← srt_is hp hs]
   have hml : (S.map Prod.fst).zipIdx.length = xs.length := (by rw [List.length_zipIdx, List.length_map, hSl])
   have hsz1 : cur.size = cap * 1 := hsz; refine ⟨fun k => S.findIdx (fun p => p.2 == f k), fun _ _ => trivial, arr.toList.take (xs.length * 1), ⟨?_, .inr ⟨g, cap, arr, by rw [hml], hg, ha, by rw [hml]; exact hncap, hmax, hz.trans hsz, by rw [hml]; rfl⟩⟩, ?_, fun j p hj => ?_⟩
   ·rw [hml]
    show (arr.toList.take (xs.length * 1)).length = xs.length * 1
    have hal : arr.toList.length = arr.size := Array.length_toList; rw [List.length_take]
    omega
   ·rw [hml]
    show (arr.toList.take (xs.length * 1)).length = xs.length * 1
    have hal : arr.toList.length = arr.size := Array.length_toList; rw [List.length_take]
    omega
   ·rw [List.getElem?_zipIdx, Nat.zero_add, List.getElem?_map] at hj; obtain ⟨y, hy, rfl⟩ := Option.map_eq_some_iff.1 hj; obtain ⟨q, hq, rfl⟩ := Option.map_eq_some_iff.1 hy; obtain ⟨A', n', c', h1, _, _, _, _, h7⟩ := hE j q hq; have hjl : j < S.length := (List.getElem?_eq_some_iff.1 hq).1; refine ⟨.slice A' n' c', ?_, ?_⟩
    ·show ((arr.toList.take (xs.length * 1)).drop (j * 1)).take 1 = [.slice A' n' c']
     apply List.ext_getElem?
     intro i
     match i with
     | 0 =>
      rw [List.getElem?_take_of_lt (by omega), List.getElem?_drop, List.getElem?_take_of_lt (by omega), Array.getElem?_toList]
      simpa using h1
     | i + 1 =>
      rw [List.getElem?_take, if_neg (by omega)]; rfl
    ·refine Kd.R_mono (Kd.R_grown h7 hgr (fun k hk => hk.1.2)) (fun k hk => ⟨⟨trivial, hk.1.2⟩, ?_⟩)
     show S.findIdx (fun p => p.2 == f k) = j
     rw [hk.2]; exact findIdx_tag hnd hq
end Go.Proofs.Ytahcpappailjgaa.SortW

