/- What the claim's row needs of the seat's texts, part 4: put together by a program of this session (declarations that no text of the claim names are left out). -/
import Derived.Outline
import Derived.Laws.Rows
import Derived.Deep.RegionLawGrows
import Derived.Deep.RegionHeld3
import Derived.Deep.DeepCutAuto
import Derived.Deep.OwnRows
import Derived.Deep.AppendLies
import Derived.Lib.AppendStr
import Derived.Deep.RegionLaw
import Derived.Lib.BufferMore
import Derived.Test.YtfllpoonfhiipaaU3
set_option linter.unusedVariables false
namespace Go.Proofs.Ytfllpoonfhiipaa.MgE
open Go.RowKit Go.Proofs.YtfllpoonfhiipaaW.PrintWords Go.Proofs.YtfllpoonfhiipaaW.PrintLast Go.Proofs.YtfllpoonfhiipaaW.PrintMore
open Go.Proofs.Ytfllpoonfhiipaa.LabP Go.Proofs.Ytfllpoonfhiipaa.MgL Go.Proofs.Ytfllpoonfhiipaa.SortW Go.Proofs.Ytfllpoonfhiipaa.MgS Go.Proofs.Ytfllpoonfhiipaa.P
def toI (g : List Nat) : List Int := g.map (fun v : Nat => (v : Int))
theorem toI_len (g : List Nat) : (toI g).length = g.length := by simp [toI]
theorem rd_toI (g : List Nat) (i : Nat) : rd (toI g) (i : Int) = ((lab g i : Nat) : Int) := by
  simp only [rd, toI, lab, Int.toNat_natCast, List.getD_eq_getElem?_getD, List.getElem?_map]
  cases g[i]? <;> rfl
theorem toI_set (g : List Nat) (i v : Nat) : (toI g).set i (v : Int) = toI (g.set i v) := by simp [toI, List.map_set]
theorem rd_pt (l : List Pt) (i : Nat) (h : i < l.length) : rd_T93 l (i : Int) = l[i] := by simp [rd_T93, h]
theorem w64n {n : Nat} (h : n ≤ 1000000) : wrap64 ((n : Int) + 1) = ((n + 1 : Nat) : Int) := by rw [w64 (by omega) (by omega)]; rfl
theorem lab_mid (P : List Nat) (v : Nat) (r : List Nat) : lab (P ++ v :: r) P.length = v := by simp [lab]
theorem set_mid (P : List Nat) (v u : Nat) (r : List Nat) : (P ++ v :: r).set P.length u = P ++ u :: r := by simp
section
variable (x0 x1 x5 : List Pt) (R : List (List Pt))
/-- The first loop: each its own label. -/
theorem l0_ev : ∀ (r P : List Nat), P.length + r.length ≤ 1000 → Ev (fun k => rope_groupsV.l1 k x0 x1 x5 (toI (P ++ List.range' P.length r.length)) true) R →
    Ev (fun k => rope_groupsV.l0 k x0 x1 x5 (toI (P ++ r)) ((P.length + r.length : Nat) : Int) (P.length : Int)) R
  | [], P, hl, h => by
    refine Ev.shift ?_
    simp only [rope_groupsV.l0]
    refine Ev.neg (by simp) ?_
    simpa using h
  | v :: r, P, hl, h => by
    simp only [List.length_cons] at hl
    refine Ev.shift ?_
    simp only [rope_groupsV.l0]
    refine Ev.pos (by simp only [List.length_cons]; omega) (Ev.pos (by omega) (Ev.pos (by rw [toI_len]; simp; omega) ?_))
    rw [w64n (by omega), Int.toNat_natCast, toI_set, set_mid]
    have ih := l0_ev r (P ++ [P.length]) (by simp; omega) (by
      rw [List.length_append, List.length_singleton, List.append_assoc, List.singleton_append]
      exact h)
    rw [List.length_append, List.length_singleton, List.append_assoc, List.singleton_append] at ih
    rw [show P.length + (v :: r).length = P.length + 1 + r.length by simp; omega]
    exact ih
theorem l4_ev (x9 : Int) (x y : Nat) (x39 : List Pt) (x40 x41 : Int) (x46 : List Pt) (x47 x48 a b : Int) (c : Bool) (d e : Int) (f : ByteArray) : ∀ (r P : List Nat), P.length + r.length ≤ 1000 →
    Ev (fun k => rope_groupsV.l3 k x0 x1 x5 (toI (P ++ stepL r x y)) true x9 x39 x40 x41 x46 x47 (wrap64 (x48 + 1)) a b c d e f) R →
    Ev (fun k => rope_groupsV.l4 k x0 x1 x5 (toI (P ++ r)) x9 (x : Int) (y : Int) x39 x40 x41 x46 x47 x48 ((P.length + r.length : Nat) : Int) (P.length : Int) a b c d e f) R
  | [], P, hl, h => by
    refine Ev.shift ?_
    simp only [rope_groupsV.l4]
    refine Ev.neg (by simp) ?_
    simpa [stepL] using h
  | v :: r, P, hl, h => by
    simp only [List.length_cons] at hl
    refine Ev.shift ?_
    simp only [rope_groupsV.l4]
    refine Ev.pos (by simp only [List.length_cons]; omega) (Ev.pos (by omega) (Ev.pos (by rw [toI_len]; simp; omega) ?_))
    rw [rd_toI, lab_mid, mx_nat, mn_nat, w64n (by omega), Int.toNat_natCast, toI_set, set_mid]
    have ih := l4_ev x9 x y x39 x40 x41 x46 x47 x48 a b c d e f r (P ++ [if v = max x y then min x y else v]) (by simp; omega) (by
      rw [List.append_assoc, List.singleton_append]
      exact h)
    rw [List.length_append, List.length_singleton, List.append_assoc, List.singleton_append] at ih
    rw [show P.length + (v :: r).length = P.length + 1 + r.length by simp; omega]
    by_cases cc : v = max x y
    · rw [if_pos cc] at ih
      exact Ev.pos (by omega) ih
    · rw [if_neg cc] at ih
      exact Ev.neg (by omega) ih
end
section
variable (ones twos : List Pt)
abbrev al : List Pt := ones ++ twos
abbrev N : Nat := (ones ++ twos).length
abbrev T : Nat → Nat → Prop := touch ones.length (N ones twos) (A (al ones twos)) (B (al ones twos))
abbrev Dn (g : List Nat) : Prop := Done ones.length (N ones twos) (A (al ones twos)) (B (al ones twos)) g
def Goal (F : Nat → Option (List (List Pt))) : Prop := ∃ g, Dn ones twos g ∧ Ev F (rowsG (al ones twos) g)
theorem Goal.imp {F F' : Nat → Option (List (List Pt))} (h : ∀ R, Ev F' R → Ev F R) (k : Goal ones twos F') : Goal ones twos F := by
  obtain ⟨g, h1, h2⟩ := k
  exact ⟨g, h1, h _ h2⟩
/-- The rows of one label: the loop over all parts. -/
theorem l6_ev (g : List Nat) (hg : g.length = N ones twos) (hs : N ones twos ≤ 1000) (l : Nat) (rows : List (List Pt)) (x104 x105 : Int) (R : List (List Pt)) : ∀ (d j : Nat) (acc : List Pt), N ones twos - j = d → j ≤ N ones twos → acc.length ≤ j →
    Ev (fun k => if ((acc ++ ((List.range' j d).filter (fun k => lab g k == l)).map (pt (al ones twos))).length : Int) = 0 then rope_groupsV.l5 k (al ones twos) (toI g) rows x104 (wrap64 (x105 + 1)) else (if rows.length < 5864062014805 then rope_groupsV.l5 k (al ones twos) (toI g) (rows ++ [acc ++ ((List.range' j d).filter (fun k => lab g k == l)).map (pt (al ones twos))]) x104 (wrap64 (x105 + 1)) else none)) R →
    Ev (fun k => rope_groupsV.l6 k (al ones twos) (toI g) rows (l : Int) acc x104 x105 (al ones twos) ((al ones twos).length : Int) (j : Int)) R := by
  intro d
  induction d with
  | zero =>
    intro j acc hd hj ha h
    have hNl : (al ones twos).length = N ones twos := rfl
    refine Ev.shift ?_
    simp only [rope_groupsV.l6]
    refine Ev.neg (by omega) ?_
    simpa using h
  | succ d ih =>
    intro j acc hd hj ha h
    have hNl : (al ones twos).length = N ones twos := rfl
    have hjl : j < (al ones twos).length := by omega
    refine Ev.shift ?_
    simp only [rope_groupsV.l6]
    refine Ev.pos (by omega) (Ev.pos (by omega) (Ev.pos (by omega) (Ev.pos (by rw [toI_len]; omega) ?_)))
    rw [rd_toI, rd_pt _ j hjl, w64n (by omega)]
    have hp : (al ones twos)[j] = pt (al ones twos) j := by rw [pt, List.getD_eq_getElem?_getD, List.getElem?_eq_getElem hjl]; rfl
    rw [List.range'_succ] at h
    by_cases c : lab g j = l
    · refine Ev.pos (by omega) (Ev.pos (by omega) ?_)
      refine ih (j + 1) _ (by omega) (by omega) (by simp; omega) ?_
      rw [List.filter_cons_of_pos (by simpa using c), List.map_cons] at h
      rw [List.append_assoc, List.singleton_append, hp]
      exact h
    · refine Ev.neg (by omega) ?_
      rw [List.filter_cons_of_neg (by simpa using c)] at h
      exact ih (j + 1) _ (by omega) (by omega) (by omega) h
theorem l5_ev (g : List Nat) (hg : g.length = N ones twos) (hs : N ones twos ≤ 1000) : ∀ (d i : Nat) (rows : List (List Pt)), N ones twos - i = d → i ≤ N ones twos → rows.length ≤ i →
    Ev (fun k => rope_groupsV.l5 k (al ones twos) (toI g) rows ((al ones twos).length : Int) (i : Int)) (rows ++ ((List.range' i d).filter (fun l => !(cls (al ones twos) g l).isEmpty)).map (cls (al ones twos) g)) := by
  intro d
  induction d with
  | zero =>
    intro i rows hd hi hr
    have hNl : (al ones twos).length = N ones twos := rfl
    refine Ev.shift ?_
    simp only [rope_groupsV.l5]
    refine Ev.neg (by omega) ?_
    simpa using Ev.now rows
  | succ d ih =>
    intro i rows hd hi hr
    have hNl : (al ones twos).length = N ones twos := rfl
    refine Ev.shift ?_
    simp only [rope_groupsV.l5]
    refine Ev.pos (by omega) ?_
    refine l6_ev ones twos g hg hs i rows _ _ _ (N ones twos) 0 [] (by omega) (by omega) (Nat.le_refl _) ?_
    have hc : ([] : List Pt) ++ ((List.range' 0 (N ones twos)).filter (fun k => lab g k == i)).map (pt (al ones twos)) = cls (al ones twos) g i := by
      rw [List.nil_append, ← List.range_eq_range']
      rfl
    rw [hc, w64n (by omega), List.range'_succ]
    by_cases c : cls (al ones twos) g i = []
    · refine Ev.pos (by rw [c]; rfl) ?_
      rw [List.filter_cons_of_neg (by rw [c]; simp)]
      exact ih (i + 1) rows (by omega) (by omega) (by omega)
    · have hl : (cls (al ones twos) g i).length ≠ 0 := fun e => c (List.eq_nil_of_length_eq_zero e)
      refine Ev.neg (by omega) (Ev.pos (by omega) ?_)
      rw [List.filter_cons_of_pos (by simpa using c), List.map_cons]
      have := ih (i + 1) (rows ++ [cls (al ones twos) g i]) (by omega) (by omega) (by simp; omega)
      rw [List.append_assoc, List.singleton_append] at this
      exact this
/-- What holds in a pass: no label has been changed, and all that touch so far have one; or the labels' sum is less. -/
def St (g0 : List Nat) (i k : Nat) (g : List Nat) (flag : Bool) : Prop :=
  Lab (T ones twos) g ∧ g.length = N ones twos ∧ ((flag = true ∧ g.sum < g0.sum) ∨ (flag = false ∧ g = g0 ∧ ∀ i' k', T ones twos i' (ones.length + k') → (i' < i ∨ i' = i ∧ k' < k) → lab g0 i' = lab g0 (ones.length + k')))
theorem touch_iff {i k : Nat} (hi : i < ones.length) (hk : k < twos.length) : T ones twos i (ones.length + k) ↔ ¬ (ones[i].f1 < twos[k].f0) ∧ ¬ (twos[k].f1 < ones[i].f0) := by
  have h1 : pt (al ones twos) i = ones[i] := by rw [pt, List.getD_eq_getElem?_getD, List.getElem?_append_left hi, List.getElem?_eq_getElem hi]; rfl
  have h2 : pt (al ones twos) (ones.length + k) = twos[k] := by rw [pt, List.getD_eq_getElem?_getD, List.getElem?_append_right (by omega), Nat.add_sub_cancel_left, List.getElem?_eq_getElem hk]; rfl
  unfold T touch A B N
  rw [h1, h2, List.length_append]
  omega
theorem l3_goal (hs : N ones twos ≤ 1000) (g0 : List Nat) (i : Nat) (hi : i < ones.length) (HL2 : ∀ g flag, St ones twos g0 (i + 1) 0 g flag → Goal ones twos (fun k => rope_groupsV.l2 k ones twos (al ones twos) (toI g) flag ones (ones.length : Int) ((i + 1 : Nat) : Int))) :
    ∀ (d j : Nat) (g : List Nat) (flag : Bool), twos.length - j = d → j ≤ twos.length → St ones twos g0 i j g flag →
    Goal ones twos (fun k => rope_groupsV.l3 k ones twos (al ones twos) (toI g) flag (i : Int) ones (ones.length : Int) (i : Int) twos (twos.length : Int) (j : Int) ones[i].f0 ones[i].f1 ones[i].f2 ones[i].f3.f0 ones[i].f3.f1 ones[i].f3.f2) := by
  have hN : N ones twos = ones.length + twos.length := List.length_append
  intro d
  induction d with
  | zero =>
    intro j g flag hd hj hS
    have hg2 := HL2 g flag (by
      refine ⟨hS.1, hS.2.1, hS.2.2.imp (fun h => h) (fun h => ⟨h.1, h.2.1, fun i' k' ht hlt => ?_⟩)⟩
      have ht2 := ht
      unfold T touch at ht2
      exact h.2.2 i' k' ht (by omega))
    refine hg2.imp _ _ fun R hR => ?_
    refine Ev.shift ?_
    simp only [rope_groupsV.l3]
    refine Ev.neg (by omega) ?_
    rw [w64n (by omega)]
    exact hR
  | succ d ih =>
    intro j g flag hd hj hS
    have hjl : j < twos.length := by omega
    have hlen := hS.2.1
    have hw : wrap64 ((ones.length : Int) + (j : Int)) = ((ones.length + j : Nat) : Int) := by rw [w64 (by omega) (by omega)]; omega
    have htch := touch_iff ones twos hi hjl
    by_cases ht : T ones twos i (ones.length + j)
    · obtain ⟨t1, t2⟩ := htch.mp ht
      by_cases he : lab g i = lab g (ones.length + j)
      · -- they have one label
        refine (ih (j + 1) g flag (by omega) (by omega) ⟨hS.1, hS.2.1, hS.2.2.imp (fun h => h) (fun h => ⟨h.1, h.2.1, fun i' k' ht' hlt => ?_⟩)⟩).imp _ _ fun R hR => ?_
        · by_cases q : i' < i ∨ i' = i ∧ k' < j
          · exact h.2.2 i' k' ht' q
          · have e1 : i' = i := by omega
            have e2 : k' = j := by omega
            subst e1 e2
            rw [← h.2.1]
            exact he
        · refine Ev.shift ?_
          simp only [rope_groupsV.l3]
          rw [rd_pt twos j hjl, hw, rd_toI, rd_toI]
          refine Ev.pos (by omega) (Ev.pos (by omega) (Ev.pos (by omega) (Ev.pos (by omega) (Ev.pos (by rw [toI_len]; omega) (Ev.pos (by omega) (Ev.pos (by rw [toI_len]; omega) (Ev.neg t1 (Ev.neg t2 ?_))))))))
          refine Ev.shift ?_
          simp only [rope_groupsV.j4]
          refine Ev.pos (by simp [he]) ?_
          rw [w64n (by omega)]
          exact hR
      · -- a label is struck
        have hst := hS.1.step (i := i) (k := ones.length + j) (by omega) (by omega) ht he
        have hsum := step_sum (l := g) (i := i) (k := ones.length + j) (by omega) (by omega) he
        have hle : g.sum ≤ g0.sum := by
          rcases hS.2.2 with h | h
          · exact Nat.le_of_lt h.2
          · rw [h.2.1]; exact Nat.le_refl _
        refine (ih (j + 1) _ true (by omega) (by omega) ⟨hst, by rw [stepL_len]; exact hlen, .inl ⟨rfl, by omega⟩⟩).imp _ _ fun R hR => ?_
        refine Ev.shift ?_
        simp only [rope_groupsV.l3]
        rw [rd_pt twos j hjl, hw, rd_toI, rd_toI]
        refine Ev.pos (by omega) (Ev.pos (by omega) (Ev.pos (by omega) (Ev.pos (by omega) (Ev.pos (by rw [toI_len]; omega) (Ev.pos (by omega) (Ev.pos (by rw [toI_len]; omega) (Ev.neg t1 (Ev.neg t2 ?_))))))))
        refine Ev.shift ?_
        simp only [rope_groupsV.j4]
        refine Ev.neg (by simp; omega) ?_
        have := l4_ev ones twos (al ones twos) R (i : Int) (lab g i) (lab g (ones.length + j)) ones (ones.length : Int) (i : Int) twos (twos.length : Int) (j : Int) ones[i].f0 ones[i].f1 ones[i].f2 ones[i].f3.f0 ones[i].f3.f1 ones[i].f3.f2 g [] (by simp; omega) (by rw [w64n (by omega), List.nil_append]; exact hR)
        rw [toI_len]
        simpa using this
    · -- they do not touch
      refine (ih (j + 1) g flag (by omega) (by omega) ⟨hS.1, hS.2.1, hS.2.2.imp (fun h => h) (fun h => ⟨h.1, h.2.1, fun i' k' ht' hlt => ?_⟩)⟩).imp _ _ fun R hR => ?_
      · by_cases q : i' < i ∨ i' = i ∧ k' < j
        · exact h.2.2 i' k' ht' q
        · have e1 : i' = i := by omega
          have e2 : k' = j := by omega
          subst e1 e2
          exact absurd ht' ht
      · have hor : ones[i].f1 < twos[j].f0 ∨ twos[j].f1 < ones[i].f0 := by
          by_cases q : ones[i].f1 < twos[j].f0
          · exact .inl q
          · by_cases q2 : twos[j].f1 < ones[i].f0
            · exact .inr q2
            · exact absurd (htch.mpr ⟨q, q2⟩) ht
        refine Ev.shift ?_
        simp only [rope_groupsV.l3]
        rw [rd_pt twos j hjl, hw, rd_toI, rd_toI]
        have hj4 : Ev (fun k => rope_groupsV.j4 k ones twos (al ones twos) (toI g) flag (i : Int) ((lab g i : Nat) : Int) ((lab g (ones.length + j) : Nat) : Int) ones (ones.length : Int) (i : Int) twos (twos.length : Int) (j : Int) true ones[i].f0 ones[i].f1 ones[i].f2 ones[i].f3.f0 ones[i].f3.f1 ones[i].f3.f2) R := by
          refine Ev.shift ?_
          simp only [rope_groupsV.j4]
          refine Ev.pos (by trivial) ?_
          rw [w64n (by omega)]
          exact hR
        refine Ev.pos (by omega) (Ev.pos (by omega) (Ev.pos (by omega) (Ev.pos (by omega) (Ev.pos (by rw [toI_len]; omega) (Ev.pos (by omega) (Ev.pos (by rw [toI_len]; omega) ?_))))))
        by_cases q : ones[i].f1 < twos[j].f0
        · exact Ev.pos q hj4
        · exact Ev.neg q (Ev.pos (by omega) hj4)
theorem l2_goal (hs : N ones twos ≤ 1000) (g0 : List Nat) (hlt : ∀ g, Lab (T ones twos) g → g.length = N ones twos → g.sum < g0.sum → Goal ones twos (fun k => rope_groupsV.l1 k ones twos (al ones twos) (toI g) true)) :
    ∀ (d i : Nat) (g : List Nat) (flag : Bool), ones.length - i = d → i ≤ ones.length → St ones twos g0 i 0 g flag → Goal ones twos (fun k => rope_groupsV.l2 k ones twos (al ones twos) (toI g) flag ones (ones.length : Int) (i : Int)) := by
  have hN : N ones twos = ones.length + twos.length := List.length_append
  intro d
  induction d with
  | zero =>
    intro i g flag hd hi hS
    have hl1 : Goal ones twos (fun k => rope_groupsV.l1 k ones twos (al ones twos) (toI g) flag) := by
      rcases hS.2.2 with h | h
      · rw [h.1]
        exact hlt g hS.1 hS.2.1 h.2
      · refine ⟨g, ⟨hS.2.1, hS.1, fun i' k' ht => ?_⟩, ?_⟩
        · have ht2 := ht
          unfold touch at ht2
          have := h.2.2 i' (k' - ones.length) (by rw [show ones.length + (k' - ones.length) = k' by omega]; exact ht) (by omega)
          rw [show ones.length + (k' - ones.length) = k' by omega] at this
          rw [h.2.1]
          exact this
        · refine Ev.shift ?_
          simp only [rope_groupsV.l1]
          refine Ev.neg (by rw [h.1]; decide) ?_
          have := l5_ev ones twos g hS.2.1 hs (N ones twos) 0 [] (by omega) (by omega) (Nat.le_refl _)
          rw [List.nil_append, ← List.range_eq_range'] at this
          exact this
    refine hl1.imp _ _ fun R hR => ?_
    refine Ev.shift ?_
    simp only [rope_groupsV.l2]
    exact Ev.neg (by omega) hR
  | succ d ih =>
    intro i g flag hd hi hS
    have hil : i < ones.length := by omega
    refine (l3_goal ones twos hs g0 i hil (fun g flag h => ih (i + 1) g flag (by omega) (by omega) h) twos.length 0 g flag (by omega) (by omega) hS).imp _ _ fun R hR => ?_
    refine Ev.shift ?_
    simp only [rope_groupsV.l2]
    rw [rd_pt ones i hil]
    exact Ev.pos (by omega) (Ev.pos (by omega) (Ev.pos (by omega) hR))
theorem l1_goal (hs : N ones twos ≤ 1000) : ∀ (m : Nat) (g : List Nat), g.sum ≤ m → Lab (T ones twos) g → g.length = N ones twos → Goal ones twos (fun k => rope_groupsV.l1 k ones twos (al ones twos) (toI g) true) := by
  intro m
  induction m with
  | zero =>
    intro g hm hL hg
    refine (l2_goal ones twos hs g (fun g' _ _ h => by omega) ones.length 0 g false (by omega) (by omega) ⟨hL, hg, .inr ⟨rfl, rfl, fun i' k' _ h => by omega⟩⟩).imp _ _ fun R hR => ?_
    refine Ev.shift ?_
    simp only [rope_groupsV.l1]
    exact Ev.pos (by trivial) hR
  | succ m ih =>
    intro g hm hL hg
    refine (l2_goal ones twos hs g (fun g' h1 h2 h => ih g' (by omega) h1 h2) ones.length 0 g false (by omega) (by omega) ⟨hL, hg, .inr ⟨rfl, rfl, fun i' k' _ h => by omega⟩⟩).imp _ _ fun R hR => ?_
    refine Ev.shift ?_
    simp only [rope_groupsV.l1]
    exact Ev.pos (by trivial) hR
theorem groups_ev (hs : N ones twos ≤ 1000) : Goal ones twos (fun k => rope_groupsV.f k ones twos (al ones twos)) := by
  have h := l1_goal ones twos hs _ (List.range (N ones twos)) (Nat.le_refl _) (Lab.start _ _) List.length_range
  refine h.imp _ _ fun R hR => ?_
  have hNl : (al ones twos).length = N ones twos := rfl
  unfold rope_groupsV.f
  refine Ev.pos (by omega) (Ev.pos (by omega) ?_)
  refine Ev.bind1 rfl ?_
  have hz : (List.replicate ((al ones twos).length : Int).toNat 0 : List Int) = toI (List.replicate (N ones twos) 0) := by rw [Int.toNat_natCast]; simp only [toI, List.map_replicate]; rfl
  rw [hz, toI_len, List.length_replicate]
  have := l0_ev ones twos (al ones twos) R (List.replicate (N ones twos) 0) [] (by rw [List.length_nil, List.length_replicate]; omega) (by
    rw [List.length_replicate, List.nil_append, List.length_nil, ← List.range_eq_range']
    exact hR)
  rw [List.length_replicate, List.nil_append, List.length_nil] at this
  simpa using this
end
end Go.Proofs.Ytfllpoonfhiipaa.MgE

set_option linter.unusedVariables false
namespace Go.Proofs.Ytfllpoonfhiipaa.MgP
open Go.RowKit Go.Proofs.YtfllpoonfhiipaaW.PrintWords Go.Proofs.YtfllpoonfhiipaaW.PrintLast Go.Proofs.YtfllpoonfhiipaaW.PrintMore
open Go.Proofs.Ytfllpoonfhiipaa.SortW Go.Proofs.Ytfllpoonfhiipaa.MgS Go.Proofs.Ytfllpoonfhiipaa.P
def onesP : Int → List Ed → List Pt
  | _, [] => []
  | b, e :: r => ⟨e.f0 + b, e.f0 + b + e.f2.size, true, e⟩ :: onesP (b + grow e) r
def twoP (e : Ed) : Pt := ⟨e.f0, e.f1, false, e⟩
def gsum (l : List Ed) : Int := (l.map grow).sum
theorem gsum_cons (e : Ed) (r : List Ed) : gsum (e :: r) = grow e + gsum r := by simp [gsum]
theorem gsum_app (l m : List Ed) : gsum (l ++ m) = gsum l + gsum m := by simp [gsum]
theorem gsum_eq (l : List Ed) : gsum l = newSum l - spanSum l := by
  induction l with
  | nil => rfl
  | cons e r ih => rw [gsum_cons, newSum_cons, spanSum_cons, ih]; unfold grow; omega
theorem onesP_app (b : Int) : ∀ l m : List Ed, onesP b (l ++ m) = onesP b l ++ onesP (b + gsum l) m
  | [], m => by simp [onesP, gsum]
  | e :: l, m => by
    simp only [List.cons_append, onesP, gsum_cons]
    rw [onesP_app (b + grow e) l m, show b + grow e + gsum l = b + (grow e + gsum l) by omega]
theorem onesP_len : ∀ (l : List Ed) (b : Int), (onesP b l).length = l.length
  | [], _ => rfl
  | e :: r, b => by simp [onesP, onesP_len r]
theorem onesP_bd {m : Int} : ∀ {l : List Ed} {p b : Int}, sp m p l = true → p ≤ m → ∀ q ∈ onesP b l, p + b ≤ q.f0 ∧ q.f0 ≤ q.f1 ∧ q.f1 ≤ m + b + gsum l
  | [], p, b, _, _, q, hq => by cases hq
  | e :: r, p, b, h, hp, q, hq => by
    obtain ⟨h1, h2, h3, h4⟩ := sp_cons h
    have hs := span_le h4 h3
    have hg := gsum_eq r
    rw [gsum_cons]
    rcases List.mem_cons.mp hq with rfl | hq
    · simp only
      unfold grow
      omega
    · have := onesP_bd (b := b + grow e) h4 h3 q hq
      unfold grow at *
      omega
theorem onesP_sort {m : Int} : ∀ {l : List Ed} {p b : Int}, sp m p l = true → (onesP b l).Pairwise fun p q => p.f1 ≤ q.f0
  | [], _, _, _ => List.Pairwise.nil
  | e :: r, p, b, h => by
    obtain ⟨h1, h2, h3, h4⟩ := sp_cons h
    refine List.pairwise_cons.mpr ⟨fun q hq => ?_, onesP_sort h4⟩
    have := (onesP_bd (b := b + grow e) h4 h3 q hq).1
    unfold grow at this
    simp only
    omega
theorem sp_mem {m : Int} : ∀ {l : List Ed} {p : Int}, sp m p l = true → ∀ e ∈ l, p ≤ e.f0 ∧ e.f0 ≤ e.f1 ∧ e.f1 ≤ m
  | [], _, _, e, he => by cases he
  | x :: r, p, h, e, he => by
    obtain ⟨h1, h2, h3, h4⟩ := sp_cons h
    rcases List.mem_cons.mp he with rfl | he
    · exact ⟨h1, h2, h3⟩
    · have := sp_mem h4 e he
      omega
theorem sp_pair {m : Int} : ∀ {l : List Ed} {p : Int}, sp m p l = true → l.Pairwise fun e f => e.f1 ≤ f.f0
  | [], _, _ => List.Pairwise.nil
  | e :: r, p, h => by
    obtain ⟨h1, h2, h3, h4⟩ := sp_cons h
    exact List.pairwise_cons.mpr ⟨fun q hq => (sp_mem h4 q hq).1, sp_pair h4⟩
/-- Where the old text stands behind edits. -/
def endT : Int → List Ed → Int
  | p, [] => p
  | _, e :: r => endT e.f1 r
theorem endT_sp {m : Int} : ∀ {l k : List Ed} {p : Int}, sp m p (l ++ k) = true → p ≤ m → sp m (endT p l) k = true ∧ p ≤ endT p l ∧ endT p l ≤ m
  | [], k, p, h, hp => ⟨h, Int.le_refl _, hp⟩
  | e :: r, k, p, h, hp => by
    obtain ⟨h1, h2, h3, h4⟩ := sp_cons h
    have := endT_sp h4 h3
    simp only [endT]
    exact ⟨this.1, by omega, this.2.2⟩
theorem endT_one {m : Int} : ∀ {l : List Ed} {p b : Int}, l ≠ [] → ∃ q ∈ onesP b l, q.f1 = endT p l + b + gsum l
  | [], _, _, h => absurd rfl h
  | [e], p, b, _ => ⟨_, List.mem_cons_self, by simp [endT, gsum, grow]; omega⟩
  | e :: f :: r, p, b, _ => by
    obtain ⟨q, hq, e1⟩ := endT_one (m := m) (l := f :: r) (p := e.f1) (b := b + grow e) (by simp)
    refine ⟨q, List.mem_cons_of_mem _ hq, ?_⟩
    rw [e1, gsum_cons e]
    simp only [endT]
    omega
theorem sp_from {m p q : Int} {l : List Ed} (h : sp m p l = true) (hq : ∀ e ∈ l.head?, q ≤ e.f0) : sp m q l = true := by
  cases l with
  | nil => rfl
  | cons e r =>
    obtain ⟨h1, h2, h3, h4⟩ := sp_cons h
    have := hq e rfl
    simp [sp, h2, h3, h4, this]
theorem cutS_split (s : ByteArray) {p b q : Int} (h0 : 0 ≤ p) (h1 : p ≤ b) (h2 : b ≤ q) : cutS s p q = cutS s p b ++ cutS s b q := by
  rw [cutS_eq, cutS_eq, cutS_eq]
  have e : s.data.toList.take q.toNat = s.data.toList.take b.toNat ++ (s.data.toList.take q.toNat).drop b.toNat := by
    conv => lhs; rw [← List.take_append_drop b.toNat (s.data.toList.take q.toNat)]
    rw [List.take_take, Nat.min_eq_left (by omega)]
  by_cases c : b.toNat ≤ s.data.toList.length
  · conv => lhs; rw [e]
    rw [List.drop_append_of_le_length (by rw [List.length_take]; omega)]
  · have h3 : s.data.toList.take q.toNat = s.data.toList := List.take_of_length_le (by omega)
    have h4 : s.data.toList.take b.toNat = s.data.toList := List.take_of_length_le (by omega)
    rw [h3, h4, List.drop_of_length_le (i := b.toNat) (l := s.data.toList) (by omega), List.append_nil]
theorem app_cut (s : ByteArray) {p b : Int} {l : List Ed} (h0 : 0 ≤ p) (h1 : p ≤ b) (h2 : ∀ e ∈ l.head?, b ≤ e.f0) (h3 : b ≤ s.size) : app s p l = cutS s p b ++ app s b l := by
  cases l with
  | nil => exact cutS_split s h0 h1 h3
  | cons e r =>
    simp only [app]
    rw [cutS_split s h0 h1 (h2 e rfl), List.append_assoc, List.append_assoc, List.append_assoc]
theorem cut_len (s : ByteArray) {p b : Int} (h0 : 0 ≤ p) (h1 : p ≤ b) (h2 : b ≤ s.size) : ((cutS s p b).length : Int) = b - p := by
  rw [cutS_length]
  omega
theorem drop_cut {M : ByteArray} {q : Int} {x y : List UInt8} (hq : 0 ≤ q) (h : M.data.toList.drop q.toNat = x ++ y) : cutS M q (q + x.length) = x ∧ M.data.toList.drop (q + x.length).toNat = y := by
  refine ⟨?_, ?_⟩
  · rw [cutS_eq, List.drop_take, h, show (q + x.length).toNat - q.toNat = x.length by omega]
    simp
  · rw [show (q + x.length).toNat = q.toNat + x.length by omega, ← List.drop_drop, h]
    simp
/-- The new text behind edits. -/
theorem app_skip (T M : ByteArray) : ∀ {lo lr : List Ed} {p b : Int}, sp T.size p (lo ++ lr) = true → 0 ≤ p → p ≤ T.size → 0 ≤ p + b → M.data.toList.drop (p + b).toNat = app T p (lo ++ lr) →
    M.data.toList.drop (endT p lo + b + gsum lo).toNat = app T (endT p lo) lr ∧ 0 ≤ endT p lo + b + gsum lo
  | [], lr, p, b, _, _, _, hb, h => by
    simp only [endT, gsum, List.map_nil, List.sum_nil, Int.add_zero]
    exact ⟨h, hb⟩
  | e :: lo, lr, p, b, hs, h0, h1, hb, h => by
    obtain ⟨h2, h3, h4, h5⟩ := sp_cons hs
    simp only [List.cons_append, app] at h
    have hd := (drop_cut hb h).2
    have hl := cut_len T h0 h2 (by omega : e.f0 ≤ (T.size : Int))
    rw [List.length_append, Ut.size_data] at hd
    have hz : p + b + ((cutS T p e.f0).length + e.f2.size : Nat) = e.f1 + (b + grow e) := by unfold grow; omega
    rw [hz] at hd
    have := app_skip T M h5 (by omega) h4 (by unfold grow; omega) hd
    simp only [endT, gsum_cons]
    rw [show endT e.f1 lo + b + (grow e + gsum lo) = endT e.f1 lo + (b + grow e) + gsum lo by omega]
    exact this
/-- A part of a text, with edits. -/
def nw (M : ByteArray) : Int → Int → List Ed → List UInt8
  | a, t, [] => cutS M a t
  | a, t, e :: r => cutS M a e.f0 ++ e.f2.data.toList ++ nw M e.f1 t r
theorem app_nw (M : ByteArray) : ∀ {so sr : List Ed} {a t : Int}, sp M.size a (so ++ sr) = true → 0 ≤ a → a ≤ t → t ≤ M.size → (∀ e ∈ so, e.f1 ≤ t) → (∀ e ∈ sr.head?, t ≤ e.f0) → app M a (so ++ sr) = nw M a t so ++ app M t sr
  | [], sr, a, t, h, h0, h1, h2, _, h4 => app_cut M h0 h1 h4 h2
  | e :: so, sr, a, t, h, h0, h1, h2, h3, h4 => by
    obtain ⟨k1, k2, k3, k4⟩ := sp_cons h
    simp only [List.cons_append, app, nw]
    rw [app_nw M k4 (by omega) (h3 e (by simp)) h2 (fun x hx => h3 x (by simp [hx])) h4]
    simp only [List.append_assoc]
theorem nw_cut (M : ByteArray) {a f t : Int} (h0 : 0 ≤ a) (h1 : a ≤ f) (h2 : f ≤ t) {so : List Ed} (h3 : ∀ e ∈ so.head?, f ≤ e.f0) : nw M a t so = cutS M a f ++ nw M f t so := by
  cases so with
  | nil => exact cutS_split M h0 h1 h2
  | cons e r =>
    simp only [nw]
    rw [cutS_split M h0 h1 (h3 e rfl), List.append_assoc, List.append_assoc, List.append_assoc]
abbrev Gr := List Ed × List Ed
def parts (b : Int) (g : Gr) : List Pt := onesP b g.1 ++ g.2.map twoP
def fsts (Gs : List Gr) : List Ed := (Gs.map Prod.fst).flatten
def snds (Gs : List Gr) : List Ed := (Gs.map Prod.snd).flatten
def SepE : Int → List Gr → Prop
  | _, [] => True
  | b, g :: r => parts b g ≠ [] ∧ (∀ p ∈ onesP b g.1, ∀ q ∈ snds r, p.f1 < q.f0) ∧ (∀ q ∈ g.2, ∀ p ∈ onesP (b + gsum g.1) (fsts r), q.f1 < p.f0) ∧ SepE (b + gsum g.1) r
def mrgE (M : ByteArray) : Int → List Gr → List Ed
  | _, [] => []
  | b, g :: r => ⟨(reach (parts b g)).1 - b, (reach (parts b g)).2 - (b + gsum g.1), ba (nw M (reach (parts b g)).1 (reach (parts b g)).2 g.2)⟩ :: mrgE M (b + gsum g.1) r
theorem head_mem {α : Type} {l : List α} {x : α} (h : x ∈ l.head?) : x ∈ l := List.mem_of_mem_head? h
theorem mrg_app (T M : ByteArray) : ∀ (Gs : List Gr) (p b : Int), SepE b Gs → sp T.size p (fsts Gs) = true → sp M.size (p + b) (snds Gs) = true → 0 ≤ p → p ≤ T.size → 0 ≤ p + b → (M.size : Int) = T.size + b + gsum (fsts Gs) →
    M.data.toList.drop (p + b).toNat = app T p (fsts Gs) → sp T.size p (mrgE M b Gs) = true ∧ app T p (mrgE M b Gs) = app M (p + b) (snds Gs)
  | [], p, b, _, _, _, h0, h1, hb, hM, h => by
    refine ⟨rfl, ?_⟩
    simp only [mrgE, snds, List.map_nil, List.flatten_nil, app]
    simp only [fsts, List.map_nil, List.flatten_nil, app] at h
    rw [← h, cutS_eq, List.take_of_length_le (by rw [Ut.size_data]; omega)]
  | g :: r, p, b, hS, hT, h2, h0, h1, hb, hM, h => by
    obtain ⟨lo, so⟩ := g
    obtain ⟨s1, s2, s3, s4⟩ := hS
    have hf : fsts ((lo, so) :: r) = lo ++ fsts r := rfl
    have hs : snds ((lo, so) :: r) = so ++ snds r := rfl
    rw [hf] at hT hM h
    rw [hs] at h2
    simp only at s1 s2 s3 s4
    obtain ⟨r1, ⟨pf, mf, ef⟩, pt_, mt, et⟩ := reach_spec s1
    rw [gsum_app] at hM
    have hone := onesP_bd (b := b) hT h1
    rw [onesP_app] at hone
    have hgs := gsum_app lo (fsts r)
    have htwo := sp_mem h2
    have hsrt := onesP_sort (b := b) hT
    rw [onesP_app] at hsrt
    have hsp2 := sp_pair h2
    -- all parts lie behind p, and end in the text
    have hall : ∀ q ∈ parts b (lo, so), p + b ≤ q.f0 ∧ q.f0 ≤ q.f1 ∧ q.f1 ≤ M.size := fun q hq => by
      rcases List.mem_append.mp hq with c | c
      · have := hone q (List.mem_append_left _ c)
        omega
      · obtain ⟨e, he, rfl⟩ := List.mem_map.mp c
        exact htwo e (List.mem_append_left _ he)
    have hx1 := hall pf mf
    have hx2 := hall pt_ mt
    have hx3 := r1 pf mf
    simp only [mrgE, snds, List.map_cons, List.flatten_cons]
    rw [show (List.map Prod.snd r).flatten = snds r from rfl]
    generalize hF : (reach (parts b (lo, so))).1 = F at *
    generalize hE : (reach (parts b (lo, so))).2 = E at *
    -- what is behind
    have hnext1 : ∀ q ∈ onesP (b + gsum lo) (fsts r), E ≤ q.f0 := fun q hq => by
      rw [et]
      rcases List.mem_append.mp mt with c | c
      · exact (List.pairwise_append.mp hsrt).2.2 pt_ c q hq
      · obtain ⟨e, he, rfl⟩ := List.mem_map.mp c
        exact Int.le_of_lt (s3 e he q hq)
    have hnext2 : ∀ q ∈ snds r, E ≤ q.f0 := fun q hq => by
      rw [et]
      rcases List.mem_append.mp mt with c | c
      · exact Int.le_of_lt (s2 pt_ c q hq)
      · obtain ⟨e, he, rfl⟩ := List.mem_map.mp c
        exact (List.pairwise_append.mp hsp2).2.2 e he q hq
    have hheadN : ∀ e ∈ (fsts r).head?, E - (b + gsum lo) ≤ e.f0 := fun e he => by
      cases hr : fsts r with
      | nil => rw [hr] at he; cases he
      | cons x y =>
        rw [hr] at he hnext1
        cases he
        have := hnext1 _ List.mem_cons_self
        simp only at this
        omega
    have hheadF : ∀ e ∈ (lo ++ fsts r).head?, F - b ≤ e.f0 := fun e he => by
      cases lo with
      | nil =>
        have := hheadN e he
        simp only [gsum, List.map_nil, List.sum_nil] at this
        omega
      | cons x y =>
        cases he
        have := (r1 _ (List.mem_append_left _ List.mem_cons_self)).1
        simp only at this
        omega
    have hTs := span_le (endT_sp hT h1).1 (endT_sp hT h1).2.2
    have hge := gsum_eq (fsts r)
    -- the beginning
    have hbT : F - b ≤ T.size := by
      cases hl : lo ++ fsts r with
      | nil =>
        obtain ⟨e1, e2⟩ := List.append_eq_nil_iff.mp hl
        rw [e1, e2] at hM
        simp only [gsum, List.map_nil, List.sum_nil] at hM
        omega
      | cons x y =>
        have q1 := hheadF x (by rw [hl]; rfl)
        have q2 := sp_mem hT x (by rw [hl]; exact List.mem_cons_self)
        omega
    have hcF := app_cut T h0 (by omega : p ≤ F - b) hheadF hbT
    rw [hcF] at h
    obtain ⟨d1, d2⟩ := drop_cut hb h
    have hlF := cut_len T h0 (by omega : p ≤ F - b) hbT
    rw [show p + b + ((cutS T p (F - b)).length : Int) = F by omega] at d1 d2
    have hspF := sp_from hT hheadF
    obtain ⟨k1, k2⟩ := app_skip T M (b := b) hspF (by omega) hbT (by omega) (by rw [show F - b + b = F by omega]; exact d2)
    obtain ⟨k3, k4, k5⟩ := endT_sp hspF hbT
    -- the end
    have hend : endT (F - b) lo ≤ E - (b + gsum lo) := by
      by_cases c : lo = []
      · subst c
        simp only [endT, gsum, List.map_nil, List.sum_nil]
        omega
      · obtain ⟨q, hq, eq⟩ := endT_one (m := 0) (p := F - b) (b := b) c
        have := (r1 q (List.mem_append_left _ hq)).2
        omega
    have hET : E - (b + gsum lo) ≤ T.size := by
      cases hl : fsts r with
      | nil =>
        rw [hl] at hM
        simp only [gsum, List.map_nil, List.sum_nil] at hM ⊢
        omega
      | cons x y =>
        have q1 := hheadN x (by rw [hl]; rfl)
        have q2 := sp_mem k3 x (by rw [hl]; exact List.mem_cons_self)
        omega
    have hcE := app_cut T (by omega : 0 ≤ endT (F - b) lo) hend hheadN hET
    rw [hcE] at k1
    have hlE := cut_len T (by omega : 0 ≤ endT (F - b) lo) hend hET
    have d3 := (drop_cut k2 k1).2
    rw [show endT (F - b) lo + b + gsum lo + ((cutS T (endT (F - b) lo) (E - (b + gsum lo))).length : Int) = E - (b + gsum lo) + (b + gsum lo) by omega] at d3
    -- the twos
    have hso : ∀ e ∈ so, F ≤ e.f0 ∧ e.f1 ≤ E := fun e he => r1 (twoP e) (List.mem_append_right _ (List.mem_map.mpr ⟨e, he, rfl⟩))
    have hnw := app_nw M h2 hb (by omega : p + b ≤ E) (by omega) (fun e he => (hso e he).2) (fun e he => hnext2 e (head_mem he))
    rw [nw_cut M hb (by omega : p + b ≤ F) (by omega : F ≤ E) (fun e he => (hso e (head_mem he)).1)] at hnw
    have hsE : sp M.size (E - (b + gsum lo) + (b + gsum lo)) (snds r) = true := by
      rw [show E - (b + gsum lo) + (b + gsum lo) = E by omega]
      have : sp M.size (endT (p + b) so) (snds r) = true := (endT_sp h2 (by omega)).1
      exact sp_from this (fun e he => hnext2 e (head_mem he))
    obtain ⟨i1, i2⟩ := mrg_app T M r (E - (b + gsum lo)) (b + gsum lo) s4 (sp_from k3 hheadN) hsE (by omega) hET (by omega) (by omega) d3
    rw [show E - (b + gsum lo) + (b + gsum lo) = E by omega] at i2
    refine ⟨?_, ?_⟩
    · simp only [sp, i1, Bool.and_true, Bool.and_eq_true, decide_eq_true_eq]
      omega
    · simp only [app, ba_list]
      rw [i2, hnw, d1]
end Go.Proofs.Ytfllpoonfhiipaa.MgP

set_option linter.unusedVariables false
set_option linter.unusedSimpArgs false
namespace Go.Proofs.Ytfllpoonfhiipaa.P
open Go Go.RowKit Go.Proofs.Ytfllpoonfhiipaa Go.Proofs.YtfllpoonfhiipaaW.PrintWords Go.Proofs.YtfllpoonfhiipaaW.PrintLast Go.Proofs.YtfllpoonfhiipaaW.PrintMore
attribute [local go_sem] max2_int min2_int max_two min_two max_three min_three max_four min_four
theorem rope_joined.atB {T e : TypeId} {B b : Nat} {p : Value} {bs : List Value} {W W' : World} (h : Lib.BuilderAtF T e B b p bs W) (hb : Below W.heap.size W W') : Lib.BuilderAtF T e B b p bs W' := by
  have hlt := h.lt
  obtain ⟨hB, v, hv, hown, hne⟩ := h
  exact ⟨hB, v, (hb.block b hlt).trans hv, hown.kept (row := none) ⟨hb.os, hb.tape, hb.output, hb.size, fun k hk _ => hb.block k hk⟩ (Classical.em _), hne⟩
theorem rope_joined.isB {B b : Nat} {l : List UInt8} {W W' : World} (h : Bld.IsB B b l W) (hb : Below W.heap.size W W') : Bld.IsB B b l W' := h.elim (fun x => .inl (rope_joined.atB x hb)) (fun x => .inr (rope_joined.atB x hb))
def rope_joined.bg (from_ : Int) (p : S93) (b : Int) : Int := if p.f2 = true ∧ p.f0 = from_ ∧ (b < 0 ∨ p.f3.f0 < b) then p.f3.f0 else b
def rope_joined.en (to_ : Int) (p : S93) (e : Int) : Int := if p.f2 = true ∧ p.f1 = to_ then mx e p.f3.f1 else e
def rope_joined.go (mid : ByteArray) (from_ to_ : Int) : List (S93) → Int → Int → Int → List UInt8 → Option (Int × Int × Int × List UInt8)
  | [], a, b, e, acc => some (a, b, e, acc)
  | p :: r, a, b, e, acc => if p.f2 = true then rope_joined.go mid from_ to_ r a (rope_joined.bg from_ p b) (rope_joined.en to_ p e) acc
    else if 0 ≤ a then (if a ≤ p.f3.f0 then (if p.f3.f0 ≤ (mid.size : Int) then (if acc.length + (mid.extract a.toNat p.f3.f0.toNat).size + p.f3.f2.size ≤ 140737488355328 then rope_joined.go mid from_ to_ r p.f3.f1 b e (acc ++ (mid.extract a.toNat p.f3.f0.toNat).data.toList ++ p.f3.f2.data.toList) else none) else none) else none) else none
def rope_joined.fin (k : Nat) (mid : ByteArray) (l1 : List (S47)) (f t : Int) (q : Int × Int × Int × List UInt8) : Option (Int × Int × ByteArray) :=
  if 0 ≤ q.1 then (if q.1 ≤ t then (if t ≤ (mid.size : Int) then (if q.2.2.2.length + (mid.extract q.1.toNat t.toNat).size ≤ 140737488355328 then
    ((if q.2.1 < 0 then rope_old.f k l1 f else some q.2.1).bind fun b => (if q.2.2.1 < 0 then rope_old.f k l1 t else some q.2.2.1).bind fun e => some (b, e, ⟨(q.2.2.2 ++ (mid.extract q.1.toNat t.toNat).data.toList).toArray⟩)) else none) else none) else none) else none
def rope_joined.f (k : Nat) (mid : ByteArray) (l1 : List (S47)) (l2 : List (S93)) : Option (Int × Int × ByteArray) :=
  (rope_reach.f k l2).bind fun p => (rope_joined.go mid p.1 p.2 l2 p.1 (-1) (-1) []).bind fun q => rope_joined.fin k mid l1 p.1 p.2 q
set_option maxHeartbeats 16000000 in
set_option maxRecDepth 100000 in
theorem rope_joined.calls (k : Nat) (a0 : ByteArray) (A1 : Option Addr) (c1 : Nat) (l1 : List (S47)) (A2 : Option Addr) (c2 : Nat) (l2 : List (S93)) (r1 : Int) (r2 : Int) (r3 : ByteArray) (w : World) (hr1 : Kd.C k47 w A1 l1.length l1) (hc1 : l1.length ≤ c1) (hr2 : Kd.C k93 w A2 l2.length l2) (hc2 : l2.length ≤ c2) (h : rope_joined.f k a0 l1 l2 = some (r1, r2, r3)) :
    Calls Try.prog 56 #[.string a0, .slice A1 l1.length c1, .slice A2 l2.length c2] w fun e w' => e = .returned (.agg #[.int .i64 r1, .int .i64 r2, .string r3]) ∧ Below w.heap.size w w' := by
  have hu := Try.underlying47
  have hu93 := Try.underlying93
  unfold rope_joined.f at h
  obtain ⟨⟨f, t⟩, ht, h⟩ := Option.bind_eq_some_iff.mp h
  obtain ⟨res, hg, h⟩ := Option.bind_eq_some_iff.mp h
  simp only at hg h
  have HF := Aside0.mk h
  have HG := Aside0.mk hg
  have HR1 := Aside0.mk hr1
  have HR2 := Aside0.mk hr2
  have HC1 := Aside0.mk hc1
  have HT := Aside0.mk (fun (w2 : World) (hb : Below w.heap.size w w2) => rope_reach.calls k A2 c2 l2 f t w2 (Kd.C_below hr2 hb) hc2 ht)
  clear h hg hr1 hr2 hc1 hc2 ht
  go_enter Try.func56, Try.ntmps56
  go_wp2_with (go_at_call 69; refine (HT.out _ (below_alloc (Below.refl _ _) _)).mono ?_; rintro e w1 ⟨rfl, hb⟩)
  have hb0 : Below w.heap.size w (w1.alloc (.cells #[.pointer none, .slice none 0 0] 77)) := below_alloc ((below_alloc (Below.refl _ _) _).trans (hb.mono (by simp))) _
  have hs1 : w.heap.size < w1.heap.size := by have := hb.size; simp at this; omega
  have hB0 : Bld.IsB w1.heap.size w1.heap.size [] (w1.alloc (.cells #[.pointer none, .slice none 0 0] 77)) := Bld.IsB.new (Nat.le_refl _)
  have hx0 : (w1.alloc (.cells #[.pointer none, .slice none 0 0] 77)).heap[w.heap.size]? = some (.cells #[.int .i64 0, .int .i64 0, .string ⟨#[]⟩] 47) := by
    have h1 := hb.block w.heap.size (by simp)
    rw [Bld.alloc_at] at h1
    have h2 := (below_alloc (Below.refl w1.heap.size w1) (.cells #[.pointer none, .slice none 0 0] 77)).block w.heap.size hs1
    exact h2.trans h1
  have HB0 := Aside0.mk hb0
  have HI0 := Aside0.mk hB0
  have HX0 := Aside0.mk hx0
  have HS1 := Aside0.mk hs1
  clear hb hb0 hB0 hx0 hs1 HT
  go_loopg [10, 11, 12, 23] l2.length (fun kq v10 v11 v12 v23 w' => ∃ (i : Nat) (a b e : Int) (acc : List UInt8), v10 = .int .i64 a ∧ v11 = .int .i64 b ∧ v12 = .int .i64 e ∧ v23 = .int .i64 i ∧ Aside0 (i + kq = l2.length) ∧ Aside0 (rope_joined.go a0 f t (l2.drop i) a b e acc = some res) ∧ Aside0 (Bld.IsB w1.heap.size w1.heap.size acc w') ∧ Aside0 (w'.heap[w.heap.size]? = some (.cells #[.int .i64 0, .int .i64 0, .string ⟨#[]⟩] 47)) ∧ Aside0 (Below w.heap.size w w'))
  case atStart => exact ⟨0, f, -1, -1, [], rfl, rfl, rfl, rfl, ⟨by omega⟩, HG, HI0, HX0, HB0⟩
  case round =>
    clear HG HI0 HX0 HB0
    obtain ⟨i, a, b, e, acc, rfl, rfl, rfl, rfl, HK, HA, HI, HX, HB⟩ := hrel
    have hmax : l2.length ≤ 9223372036854775807 := HR2.out.2.1
    by_cases hlt : i < l2.length
    · have hd : decide ((i : Int) < (l2.length : Int)) = true := decide_eq_true (by omega)
      have H := HA.out
      rw [List.drop_eq_getElem_cons hlt] at H
      simp only [rope_joined.go] at H
      have hrd : rd_T93 l2 (i : Int) = l2[i] := by simp [rd_T93, hlt]
      obtain ⟨ad, ee, hx0, hx1, hx2, hx3, hx4, hx5⟩ := at_T93 HR2.out (i : Int) (by omega) (by omega)
      rw [hrd, Int.toNat_natCast] at hx0 hx1 hx2 hx3 hx4 hx5
      cases ee
      replace hx0 := (HB.out.cell (World.block_lt_of_cell? w _ hx0)).trans hx0
      replace hx1 := (HB.out.cell (World.block_lt_of_cell? w _ hx1)).trans hx1
      replace hx2 := (HB.out.cell (World.block_lt_of_cell? w _ hx2)).trans hx2
      replace hx3 := (HB.out.cell (World.block_lt_of_cell? w _ hx3)).trans hx3
      replace hx4 := (HB.out.cell (World.block_lt_of_cell? w _ hx4)).trans hx4
      replace hx5 := (HB.out.cell (World.block_lt_of_cell? w _ hx5)).trans hx5
      clear hrd
      generalize l2[i] = x at *
      obtain ⟨x0, x1, x2, y0, y1, y2⟩ := x
      simp only at hx0 hx1 hx2 hx3 hx4 hx5 H
      have hblt : w.heap.size < wr.heap.size := Nat.lt_trans HS1.out HI.out.lt
      have HX1 : ∀ o, Aside0 ((wr.alloc o).heap[w.heap.size]? = some (.cells #[.int .i64 0, .int .i64 0, .string ⟨#[]⟩] 47)) := fun o => ⟨((below_alloc (Below.refl wr.heap.size wr) o).block w.heap.size hblt).trans HX.out⟩
      have HBL := Aside0.mk hblt
      clear hblt
      cases gk with
      | zero => exact absurd hlt (by have := HK.out; omega)
      | succ kq' =>
      cases x2 with
      | false =>
        simp only [Bool.false_eq_true, if_false] at H
        obtain ⟨h0, H⟩ := Ut.ite_some H
        obtain ⟨h1, H⟩ := Ut.ite_some H
        obtain ⟨h2, H⟩ := Ut.ite_some H
        obtain ⟨h3, H⟩ := Ut.ite_some H
        have HA' := Aside0.mk H
        clear H HA
        go_wp2_with fail
        refine (Bld.write w1.heap.size w1.heap.size acc _ _ (HI.out.alloc _) (by omega) (by have := HI.out.lt; simp; omega)).mono ?_
        rintro e w2 ⟨rfl, hI2, hb2, hk2⟩
        have hbox : w2.heap[wr.heap.size]? = some (.cells #[.int .i64 x0, .int .i64 x1, .bool false, .int .i64 y0, .int .i64 y1, .string y2] 93 (0, 0)) :=
          hk2 _ _ (Bld.alloc_at _ _) (by have := HI.out.lt; simp; omega) (by intro c fz e; injection e with _ e2; exact absurd e2 (by decide))
        have hX2 := (hb2.block _ HS1.out).trans (HX1 _).out
        have hz4 : w2.cell? ⟨wr.heap.size, 4, none⟩ = some (.int .i64 y1) := by rw [Lib.cell_of_heap hbox]; rfl
        have hz5 : w2.cell? ⟨wr.heap.size, 5, none⟩ = some (.string y2) := by rw [Lib.cell_of_heap hbox]; rfl
        go_wp2_with fail
        have hB2 : Below w.heap.size w w2 := (below_alloc HB.out _).trans (hb2.mono (Nat.le_of_lt HS1.out))
        refine (Bld.write w1.heap.size w1.heap.size _ _ _ hI2 (by simp; simp at h3; omega) (Nat.le_of_lt hI2.lt)).mono ?_
        rintro e w3 ⟨rfl, hI3, hb3, hk3⟩
        have hbox3 := hk3 _ _ hbox (by have := HI.out.lt; simp; omega) (by intro c fz e; injection e with _ e2; exact absurd e2 (by decide))
        have HX3 := Aside0.mk ((hb3.block _ HS1.out).trans hX2)
        have hz34 : w3.cell? ⟨wr.heap.size, 4, none⟩ = some (.int .i64 y1) := by rw [Lib.cell_of_heap hbox3]; rfl
        clear hX2 hbox hbox3 hk2 hk3
        go_wp2_with fail
        go_roundg kq'
        case measure => omega
        case rel => exact ⟨i + 1, y1, _, _, _, rfl, rfl, rfl, by go_num, ⟨by have := HK.out; omega⟩, HA', ⟨hI3⟩, HX3, ⟨hB2.trans (hb3.mono (Nat.le_of_lt HS1.out))⟩⟩
      | true =>
        simp only [if_true] at H
        by_cases c1 : x0 = f
        · have d1 : (x0 == f) = true := beq_iff_eq.mpr c1
          by_cases c2 : b < 0
          · have d2 : decide (b < 0) = true := decide_eq_true c2
            have HB5 := Aside0.mk (show rope_joined.bg f ⟨x0, x1, true, y0, y1, y2⟩ b = y0 from if_pos ⟨rfl, c1, .inl c2⟩)
            clear c1 c2
            by_cases c5 : x1 = t
            · have d5 : (x1 == t) = true := beq_iff_eq.mpr c5
              have hm : (if e < y1 then y1 else e) = mx e y1 := rfl
              have hm5 : rope_joined.en t ⟨x0, x1, true, y0, y1, y2⟩ e = mx e y1 := if_pos ⟨rfl, c5⟩
              have HM5 := Aside0.mk hm5
              clear c5 hm5
              have hbg : rope_joined.bg f ⟨x0, x1, true, y0, y1, y2⟩ b = y0 := HB5.out
              have hen : rope_joined.en t ⟨x0, x1, true, y0, y1, y2⟩ e = mx e y1 := HM5.out
              rw [hbg, hen] at H
              have HA' := Aside0.mk H
              clear H HA hbg hen
              go_wp2_with fail
              go_roundg kq'
              case measure => omega
              case rel => exact ⟨i + 1, _, _, _, _, rfl, rfl, rfl, by go_num, ⟨by have := HK.out; omega⟩, HA', ⟨HI.out.alloc _⟩, HX1 _, ⟨below_alloc HB.out _⟩⟩
            · have d5 : (x1 == t) = false := beq_eq_false_iff_ne.mpr c5
              have hm5 : rope_joined.en t ⟨x0, x1, true, y0, y1, y2⟩ e = e := if_neg (fun q => c5 q.2)
              have HM5 := Aside0.mk hm5
              clear c5 hm5
              have hbg : rope_joined.bg f ⟨x0, x1, true, y0, y1, y2⟩ b = y0 := HB5.out
              have hen : rope_joined.en t ⟨x0, x1, true, y0, y1, y2⟩ e = e := HM5.out
              rw [hbg, hen] at H
              have HA' := Aside0.mk H
              clear H HA hbg hen
              go_wp2_with fail
              go_roundg kq'
              case measure => omega
              case rel => exact ⟨i + 1, _, _, _, _, rfl, rfl, rfl, by go_num, ⟨by have := HK.out; omega⟩, HA', ⟨HI.out.alloc _⟩, HX1 _, ⟨below_alloc HB.out _⟩⟩
          · have d2 : decide (b < 0) = false := decide_eq_false c2
            by_cases c3 : y0 < b
            · have d3 : decide (y0 < b) = true := decide_eq_true c3
              have HB5 := Aside0.mk (show rope_joined.bg f ⟨x0, x1, true, y0, y1, y2⟩ b = y0 from if_pos ⟨rfl, c1, .inr c3⟩)
              clear c1 c2 c3
              by_cases c5 : x1 = t
              · have d5 : (x1 == t) = true := beq_iff_eq.mpr c5
                have hm : (if e < y1 then y1 else e) = mx e y1 := rfl
                have hm5 : rope_joined.en t ⟨x0, x1, true, y0, y1, y2⟩ e = mx e y1 := if_pos ⟨rfl, c5⟩
                have HM5 := Aside0.mk hm5
                clear c5 hm5
                have hbg : rope_joined.bg f ⟨x0, x1, true, y0, y1, y2⟩ b = y0 := HB5.out
                have hen : rope_joined.en t ⟨x0, x1, true, y0, y1, y2⟩ e = mx e y1 := HM5.out
                rw [hbg, hen] at H
                have HA' := Aside0.mk H
                clear H HA hbg hen
                go_wp2_with fail
                go_roundg kq'
                case measure => omega
                case rel => exact ⟨i + 1, _, _, _, _, rfl, rfl, rfl, by go_num, ⟨by have := HK.out; omega⟩, HA', ⟨HI.out.alloc _⟩, HX1 _, ⟨below_alloc HB.out _⟩⟩
              · have d5 : (x1 == t) = false := beq_eq_false_iff_ne.mpr c5
                have hm5 : rope_joined.en t ⟨x0, x1, true, y0, y1, y2⟩ e = e := if_neg (fun q => c5 q.2)
                have HM5 := Aside0.mk hm5
                clear c5 hm5
                have hbg : rope_joined.bg f ⟨x0, x1, true, y0, y1, y2⟩ b = y0 := HB5.out
                have hen : rope_joined.en t ⟨x0, x1, true, y0, y1, y2⟩ e = e := HM5.out
                rw [hbg, hen] at H
                have HA' := Aside0.mk H
                clear H HA hbg hen
                go_wp2_with fail
                go_roundg kq'
                case measure => omega
                case rel => exact ⟨i + 1, _, _, _, _, rfl, rfl, rfl, by go_num, ⟨by have := HK.out; omega⟩, HA', ⟨HI.out.alloc _⟩, HX1 _, ⟨below_alloc HB.out _⟩⟩
            · have d3 : decide (y0 < b) = false := decide_eq_false c3
              have HB5 := Aside0.mk (show rope_joined.bg f ⟨x0, x1, true, y0, y1, y2⟩ b = b from if_neg (fun q => q.2.2.elim c2 c3))
              clear c1 c2 c3
              by_cases c5 : x1 = t
              · have d5 : (x1 == t) = true := beq_iff_eq.mpr c5
                have hm : (if e < y1 then y1 else e) = mx e y1 := rfl
                have hm5 : rope_joined.en t ⟨x0, x1, true, y0, y1, y2⟩ e = mx e y1 := if_pos ⟨rfl, c5⟩
                have HM5 := Aside0.mk hm5
                clear c5 hm5
                have hbg : rope_joined.bg f ⟨x0, x1, true, y0, y1, y2⟩ b = b := HB5.out
                have hen : rope_joined.en t ⟨x0, x1, true, y0, y1, y2⟩ e = mx e y1 := HM5.out
                rw [hbg, hen] at H
                have HA' := Aside0.mk H
                clear H HA hbg hen
                go_wp2_with fail
                go_roundg kq'
                case measure => omega
                case rel => exact ⟨i + 1, _, _, _, _, rfl, rfl, rfl, by go_num, ⟨by have := HK.out; omega⟩, HA', ⟨HI.out.alloc _⟩, HX1 _, ⟨below_alloc HB.out _⟩⟩
              · have d5 : (x1 == t) = false := beq_eq_false_iff_ne.mpr c5
                have hm5 : rope_joined.en t ⟨x0, x1, true, y0, y1, y2⟩ e = e := if_neg (fun q => c5 q.2)
                have HM5 := Aside0.mk hm5
                clear c5 hm5
                have hbg : rope_joined.bg f ⟨x0, x1, true, y0, y1, y2⟩ b = b := HB5.out
                have hen : rope_joined.en t ⟨x0, x1, true, y0, y1, y2⟩ e = e := HM5.out
                rw [hbg, hen] at H
                have HA' := Aside0.mk H
                clear H HA hbg hen
                go_wp2_with fail
                go_roundg kq'
                case measure => omega
                case rel => exact ⟨i + 1, _, _, _, _, rfl, rfl, rfl, by go_num, ⟨by have := HK.out; omega⟩, HA', ⟨HI.out.alloc _⟩, HX1 _, ⟨below_alloc HB.out _⟩⟩
        · have d1 : (x0 == f) = false := beq_eq_false_iff_ne.mpr c1
          have HB5 := Aside0.mk (show rope_joined.bg f ⟨x0, x1, true, y0, y1, y2⟩ b = b from if_neg (fun q => c1 q.2.1))
          clear c1
          by_cases c5 : x1 = t
          · have d5 : (x1 == t) = true := beq_iff_eq.mpr c5
            have hm : (if e < y1 then y1 else e) = mx e y1 := rfl
            have hm5 : rope_joined.en t ⟨x0, x1, true, y0, y1, y2⟩ e = mx e y1 := if_pos ⟨rfl, c5⟩
            have HM5 := Aside0.mk hm5
            clear c5 hm5
            have hbg : rope_joined.bg f ⟨x0, x1, true, y0, y1, y2⟩ b = b := HB5.out
            have hen : rope_joined.en t ⟨x0, x1, true, y0, y1, y2⟩ e = mx e y1 := HM5.out
            rw [hbg, hen] at H
            have HA' := Aside0.mk H
            clear H HA hbg hen
            go_wp2_with fail
            go_roundg kq'
            case measure => omega
            case rel => exact ⟨i + 1, _, _, _, _, rfl, rfl, rfl, by go_num, ⟨by have := HK.out; omega⟩, HA', ⟨HI.out.alloc _⟩, HX1 _, ⟨below_alloc HB.out _⟩⟩
          · have d5 : (x1 == t) = false := beq_eq_false_iff_ne.mpr c5
            have hm5 : rope_joined.en t ⟨x0, x1, true, y0, y1, y2⟩ e = e := if_neg (fun q => c5 q.2)
            have HM5 := Aside0.mk hm5
            clear c5 hm5
            have hbg : rope_joined.bg f ⟨x0, x1, true, y0, y1, y2⟩ b = b := HB5.out
            have hen : rope_joined.en t ⟨x0, x1, true, y0, y1, y2⟩ e = e := HM5.out
            rw [hbg, hen] at H
            have HA' := Aside0.mk H
            clear H HA hbg hen
            go_wp2_with fail
            go_roundg kq'
            case measure => omega
            case rel => exact ⟨i + 1, _, _, _, _, rfl, rfl, rfl, by go_num, ⟨by have := HK.out; omega⟩, HA', ⟨HI.out.alloc _⟩, HX1 _, ⟨below_alloc HB.out _⟩⟩
    · have hd : decide ((i : Int) < (l2.length : Int)) = false := decide_eq_false (by omega)
      have H := HA.out
      rw [List.drop_of_length_le (by have := HK.out; omega)] at H
      simp only [rope_joined.go] at H
      injection H with H
      have h := HF.out
      unfold rope_joined.fin at h
      rw [← H] at h
      simp only at h
      obtain ⟨h0, h⟩ := Ut.ite_some h
      obtain ⟨h1, h⟩ := Ut.ite_some h
      obtain ⟨h2, h⟩ := Ut.ite_some h
      obtain ⟨h3, h⟩ := Ut.ite_some h
      obtain ⟨bb, hbb, h⟩ := Option.bind_eq_some_iff.mp h
      obtain ⟨ee, hee, h⟩ := Option.bind_eq_some_iff.mp h
      obtain ⟨L, hL⟩ : ∃ L, acc ++ (a0.extract a.toNat t.toNat).data.toList = L := ⟨_, rfl⟩
      rw [hL] at h
      simp only [Option.some.injEq, Prod.mk.injEq] at h
      obtain ⟨rfl, rfl, rfl⟩ := h
      have HBB := Aside0.mk hbb
      have HEE := Aside0.mk hee
      clear hbb hee H HA HF
      go_wp2_with fail
      refine (Bld.write w1.heap.size w1.heap.size acc _ _ HI.out (by omega) (Nat.le_of_lt HI.out.lt)).mono ?_
      rintro e_ w2 ⟨rfl, hI2, hb2, hk2⟩
      have HX2 := Aside0.mk ((hb2.block _ HS1.out).trans HX.out)
      have HB2 := Aside0.mk (HB.out.trans (hb2.mono (Nat.le_of_lt HS1.out)))
      rw [hL] at hI2
      have HI2 := Aside0.mk hI2
      clear hL
      clear hI2 hb2 hk2 HX HB HI
      have HO := Aside0.mk (fun (w4 : World) (x y : Int) (hb : Below w.heap.size w w4) (h : rope_old.f k l1 x = some y) => rope_old.calls k A1 c1 l1 x y w4 (Kd.C_below HR1.out hb) HC1.out h)
      have HK1 := Aside0.mk (fun (W W' : World) (o : Obj) (h : W.heap[w.heap.size]? = some o) (hb : Below W.heap.size W W') => (hb.block _ (Array.getElem?_eq_some_iff.1 h).1).trans h)
      by_cases cb : b < 0
      · have db : decide (b < 0) = true := decide_eq_true cb
        have HBB1 := Aside0.mk (by have := HBB.out; rwa [if_pos cb] at this : rope_old.f k l1 f = some bb)
        clear cb HBB
        go_wp2_with fail
        refine (HO.out _ _ _ HB2.out HBB1.out).mono ?_
        rintro e_ w4 ⟨rfl, hb4⟩
        have HI4 := Aside0.mk (rope_joined.isB HI2.out hb4)
        have HX4 := Aside0.mk (HK1.out _ _ _ HX2.out hb4)
        have HB4 := Aside0.mk (Kx.below_step HB2.out hb4)
        clear hb4
        by_cases ce : e < 0
        · have de : decide (e < 0) = true := decide_eq_true ce
          have HEE1 := Aside0.mk (by have := HEE.out; rwa [if_pos ce] at this : rope_old.f k l1 t = some ee)
          clear ce HEE
          go_wp2_with fail
          refine (HO.out _ _ _ HB4.out HEE1.out).mono ?_
          rintro e_ w6 ⟨rfl, hb6⟩
          have HI6 := Aside0.mk (rope_joined.isB HI4.out hb6)
          have HX6 := Aside0.mk (HK1.out _ _ _ HX4.out hb6)
          have HB6 := Aside0.mk (Kx.below_step HB4.out hb6)
          clear hb6
          go_wp2_with fail
          refine (Bld.string w1.heap.size w1.heap.size _ _ HI6.out (Nat.le_of_lt HI6.out.lt)).mono ?_
          rintro e_ w9 ⟨rfl, hb9⟩
          have hX9 := (hb9.block _ HS1.out).trans HX6.out
          have HB9 := Aside0.mk (HB6.out.trans (hb9.mono (Nat.le_of_lt HS1.out)))
          have hc0 := (Lib.cell_of_heap hX9 0)
          have hf0 := Lib.frozen_of_heap hX9 0
          have hc1 := (Lib.cell_of_heap hX9 1)
          have hf1 := Lib.frozen_of_heap hX9 1
          have hc2 := (Lib.cell_of_heap hX9 2)
          have hf2 := Lib.frozen_of_heap hX9 2
          go_wp2_with fail
          refine bodyPost_ret (results_cell_row rfl _ _ w.heap.size 47 _ (0, 0) _ rfl (blk_put (blk_put (blk_put hX9 0 _ rfl) 1 _ rfl) 2 _ rfl) hu rfl (by kernel_rfl)) rfl ?_
          exact ⟨rfl, below_set (below_set (below_set HB9.out (Nat.le_refl _)) (Nat.le_refl _)) (Nat.le_refl _)⟩
        · have de : decide (e < 0) = false := decide_eq_false ce
          have hee1 := (by have := HEE.out; rwa [if_neg ce] at this : some e = some ee)
          injection hee1 with hee1
          subst hee1
          clear ce HEE
          go_wp2_with fail
          refine (Bld.string w1.heap.size w1.heap.size _ _ HI4.out (Nat.le_of_lt HI4.out.lt)).mono ?_
          rintro e_ w9 ⟨rfl, hb9⟩
          have hX9 := (hb9.block _ HS1.out).trans HX4.out
          have HB9 := Aside0.mk (HB4.out.trans (hb9.mono (Nat.le_of_lt HS1.out)))
          have hc0 := (Lib.cell_of_heap hX9 0)
          have hf0 := Lib.frozen_of_heap hX9 0
          have hc1 := (Lib.cell_of_heap hX9 1)
          have hf1 := Lib.frozen_of_heap hX9 1
          have hc2 := (Lib.cell_of_heap hX9 2)
          have hf2 := Lib.frozen_of_heap hX9 2
          go_wp2_with fail
          refine bodyPost_ret (results_cell_row rfl _ _ w.heap.size 47 _ (0, 0) _ rfl (blk_put (blk_put (blk_put hX9 0 _ rfl) 1 _ rfl) 2 _ rfl) hu rfl (by kernel_rfl)) rfl ?_
          exact ⟨rfl, below_set (below_set (below_set HB9.out (Nat.le_refl _)) (Nat.le_refl _)) (Nat.le_refl _)⟩
      · have db : decide (b < 0) = false := decide_eq_false cb
        have hbb1 := (by have := HBB.out; rwa [if_neg cb] at this : some b = some bb)
        injection hbb1 with hbb1
        subst hbb1
        clear cb HBB
        by_cases ce : e < 0
        · have de : decide (e < 0) = true := decide_eq_true ce
          have HEE1 := Aside0.mk (by have := HEE.out; rwa [if_pos ce] at this : rope_old.f k l1 t = some ee)
          clear ce HEE
          go_wp2_with fail
          refine (HO.out _ _ _ HB2.out HEE1.out).mono ?_
          rintro e_ w6 ⟨rfl, hb6⟩
          have HI6 := Aside0.mk (rope_joined.isB HI2.out hb6)
          have HX6 := Aside0.mk (HK1.out _ _ _ HX2.out hb6)
          have HB6 := Aside0.mk (Kx.below_step HB2.out hb6)
          clear hb6
          go_wp2_with fail
          refine (Bld.string w1.heap.size w1.heap.size _ _ HI6.out (Nat.le_of_lt HI6.out.lt)).mono ?_
          rintro e_ w9 ⟨rfl, hb9⟩
          have hX9 := (hb9.block _ HS1.out).trans HX6.out
          have HB9 := Aside0.mk (HB6.out.trans (hb9.mono (Nat.le_of_lt HS1.out)))
          have hc0 := (Lib.cell_of_heap hX9 0)
          have hf0 := Lib.frozen_of_heap hX9 0
          have hc1 := (Lib.cell_of_heap hX9 1)
          have hf1 := Lib.frozen_of_heap hX9 1
          have hc2 := (Lib.cell_of_heap hX9 2)
          have hf2 := Lib.frozen_of_heap hX9 2
          go_wp2_with fail
          refine bodyPost_ret (results_cell_row rfl _ _ w.heap.size 47 _ (0, 0) _ rfl (blk_put (blk_put (blk_put hX9 0 _ rfl) 1 _ rfl) 2 _ rfl) hu rfl (by kernel_rfl)) rfl ?_
          exact ⟨rfl, below_set (below_set (below_set HB9.out (Nat.le_refl _)) (Nat.le_refl _)) (Nat.le_refl _)⟩
        · have de : decide (e < 0) = false := decide_eq_false ce
          have hee1 := (by have := HEE.out; rwa [if_neg ce] at this : some e = some ee)
          injection hee1 with hee1
          subst hee1
          clear ce HEE
          go_wp2_with fail
          refine (Bld.string w1.heap.size w1.heap.size _ _ HI2.out (Nat.le_of_lt HI2.out.lt)).mono ?_
          rintro e_ w9 ⟨rfl, hb9⟩
          have hX9 := (hb9.block _ HS1.out).trans HX2.out
          have HB9 := Aside0.mk (HB2.out.trans (hb9.mono (Nat.le_of_lt HS1.out)))
          have hc0 := (Lib.cell_of_heap hX9 0)
          have hf0 := Lib.frozen_of_heap hX9 0
          have hc1 := (Lib.cell_of_heap hX9 1)
          have hf1 := Lib.frozen_of_heap hX9 1
          have hc2 := (Lib.cell_of_heap hX9 2)
          have hf2 := Lib.frozen_of_heap hX9 2
          go_wp2_with fail
          refine bodyPost_ret (results_cell_row rfl _ _ w.heap.size 47 _ (0, 0) _ rfl (blk_put (blk_put (blk_put hX9 0 _ rfl) 1 _ rfl) 2 _ rfl) hu rfl (by kernel_rfl)) rfl ?_
          exact ⟨rfl, below_set (below_set (below_set HB9.out (Nat.le_refl _)) (Nat.le_refl _)) (Nat.le_refl _)⟩
end Go.Proofs.Ytfllpoonfhiipaa.P

namespace Go.Proofs.Ytfllpoonfhiipaa.P
open Go.RowKit Go.Proofs.YtfllpoonfhiipaaW.PrintWords Go.Proofs.YtfllpoonfhiipaaW.PrintLast Go.Proofs.YtfllpoonfhiipaaW.PrintMore
attribute [local go_sem] max2_int min2_int max_two min_two max_three min_three max_four min_four
set_option linter.unusedVariables false
set_option linter.unusedSimpArgs false
/-! ### rope_Merge: function 41 -/
mutual
def rope_Merge.l0 : Nat → List (S47) → List (S47) → ByteArray → List (S93) → List (S47) → Int → Int → Option ((List (S47)) × Int)
  | 0, _, _, _, _, _, _, _ => none
  | k + 1, x1, x2, x8, x13, x43, x44, x45 => if x45 < x44 then (if 0 ≤ x45 then (if x45 < (x43.length : Int) then (if x45 < (x1.length : Int) then (if x13.length < 2513169434916 then (rope_Merge.l0 k x1 x2 x8 (x13 ++ [(⟨(rd_T47 x43 x45).f0, (rd_T47 x43 x45).f1, true, (⟨(rd_T47 x1 x45).f0, (rd_T47 x1 x45).f1, (rd_T47 x1 x45).f2⟩ : S47)⟩ : S93)]) x43 x44 (wrap64 (x45 + 1))) else (none)) else (none)) else (none)) else (none)) else (rope_Merge.l1 k x1 x8 x13 ([] : List (S93)) x2 (x2.length : Int) 0)
def rope_Merge.l1 : Nat → List (S47) → ByteArray → List (S93) → List (S93) → List (S47) → Int → Int → Option ((List (S47)) × Int)
  | 0, _, _, _, _, _, _, _ => none
  | k + 1, x1, x8, x13, x14, x63, x64, x65 => if x65 < x64 then (if 0 ≤ x65 then (if x65 < (x63.length : Int) then (if x14.length < 2513169434916 then (rope_Merge.l1 k x1 x8 x13 (x14 ++ [(⟨(rd_T47 x63 x65).f0, (rd_T47 x63 x65).f1, false, (⟨(rd_T47 x63 x65).f0, (rd_T47 x63 x65).f1, (rd_T47 x63 x65).f2⟩ : S47)⟩ : S93)]) x63 x64 (wrap64 (x65 + 1))) else (none)) else (none)) else (none)) else ((rope_groups.f k x13 x14).bind fun t133 => (rope_Merge.l2 k x1 x8 ([] : List (S47)) t133 (t133.length : Int) 0))
def rope_Merge.l2 : Nat → List (S47) → ByteArray → List (S47) → List (List (S93)) → Int → Int → Option ((List (S47)) × Int)
  | 0, _, _, _, _, _, _ => none
  | k + 1, x1, x8, x19, x81, x82, x83 => if x83 < x82 then (if 0 ≤ x83 then (if x83 < (x81.length : Int) then ((rope_joined.f k x8 x1 (rd_L6 x81 x83)).bind fun bt137 => (if x19.length < 4398046511104 then (rope_Merge.l2 k x1 x8 (x19 ++ [(⟨bt137.1, bt137.2.1, bt137.2.2⟩ : S47)]) x81 x82 (wrap64 (x83 + 1))) else (none))) else (none)) else (none)) else (if (x19.length : Int) > 100 then (some (([] : List (S47)), 7)) else (some (x19, 0)))
end
def rope_Merge.f (k : Nat) (a0 : ByteArray) (l1 : List (S47)) (l2 : List (S47)) : Option ((List (S47)) × Int) := (rope_Apply.f k a0 l1).bind fun bt115 => (if bt115.2 = 0 then ((rope_Check.f k bt115.1 l2).bind fun t117 => (if t117 = 0 then ((rope_Invert.f k a0 l1).bind fun bt118 => (rope_Merge.l0 k l1 l2 bt115.1 ([] : List (S93)) bt118.1 (bt118.1.length : Int) 0)) else (some (([] : List (S47)), t117)))) else (some (([] : List (S47)), bt115.2)))
def rope_Merge.T12 : Bool × List (List Nat × List Nat) := (true, [([], []), ([], []), ([1], [1]), ([], []), ([3], [3]), ([], []), ([], []), ([5, 6], [5, 6]), ([7], [7]), ([2, 4, 8], [2, 4, 8]), ([9], [9]), ([0, 10], [0, 10]), ([11, 11, 0, 1, 2, 3, 4, 5, 6, 7, 8, 9, 10, 11], [0, 11])])
def rope_Merge.B12 : List Nat := [0, 0, 2, 0, 8, 0, 0, 96, 224, 510, 1022, 2047, 4095]
theorem rope_Merge.tab12 : rtab .any (opsOf Try.f41 12) = rope_Merge.T12 := by kernel_rfl
theorem rope_Merge.bits12 : waitsOk rope_Merge.T12.2 rope_Merge.B12 = true := by kernel_rfl
set_option maxHeartbeats 8000000 in
set_option maxRecDepth 100000 in
theorem rope_Merge.calls (k : Nat) (a0 : ByteArray) (A1 : Option Addr) (c1 : Nat) (l1 : List (S47)) (A2 : Option Addr) (c2 : Nat) (l2 : List (S47)) (r1 : List (S47)) (r2 : Int) (w : World) (hr1 : Kd.C k47 w A1 l1.length l1) (hc1 : l1.length ≤ c1) (hr2 : Kd.C k47 w A2 l2.length l2) (hc2 : l2.length ≤ c2) (h : rope_Merge.f k a0 l1 l2 = some (r1, r2)) :
    Calls Try.prog 41 #[.string a0, .slice A1 l1.length c1, .slice A2 l2.length c2] w fun e w' => ∃ v0_ : Value, e = .returned (.tuple #[v0_, .int .i64 r2]) ∧ Kd.R k47 47 w' w.heap.size (fun _ => True) v0_ r1 ∧ Below w.heap.size w w' := by
  have hu47 := Try.underlying47
  have hu93 := Try.underlying93
  have HR1 := Aside0.mk hr1
  have HC1 := Aside0.mk hc1
  clear hr1 hc1
  have HR2 := Aside0.mk hr2
  have HC2 := Aside0.mk hc2
  clear hr2 hc2
  have HB := Aside0.mk (Below.refl w.heap.size w)
  have H : ((rope_Apply.f k a0 l1).bind fun bt115 => (if bt115.2 = 0 then ((rope_Check.f k bt115.1 l2).bind fun t117 => (if t117 = 0 then ((rope_Invert.f k a0 l1).bind fun bt118 => (rope_Merge.l0 k l1 l2 bt115.1 ([] : List (S93)) bt118.1 (bt118.1.length : Int) 0)) else (some (([] : List (S47)), t117)))) else (some (([] : List (S47)), bt115.2)))) = some (r1, r2) := h
  clear h
  replace H := Option.bind_eq_some_iff.mp H
  obtain ⟨⟨t115, t116⟩, A40, H⟩ := H
  replace H : (if t116 = 0 then ((rope_Check.f k t115 l2).bind fun t117 => (if t117 = 0 then ((rope_Invert.f k a0 l1).bind fun bt118 => (rope_Merge.l0 k l1 l2 t115 ([] : List (S93)) bt118.1 (bt118.1.length : Int) 0)) else (some (([] : List (S47)), t117)))) else (some (([] : List (S47)), t116))) = some (r1, r2) := H
  have A4 := Aside0.mk A40
  clear A40
  by_cases c5 : t116 = 0
  · rw [if_pos c5] at H
    have c5b0 : (t116 == 0) = true := beq_iff_eq.mpr c5
    have c5b1 : (t116 != 0) = false := bne_eq_false_iff_eq.mpr c5
    clear c5
    replace H := Option.bind_eq_some_iff.mp H
    obtain ⟨t117, A60, H⟩ := H
    replace H : (if t117 = 0 then ((rope_Invert.f k a0 l1).bind fun bt118 => (rope_Merge.l0 k l1 l2 t115 ([] : List (S93)) bt118.1 (bt118.1.length : Int) 0)) else (some (([] : List (S47)), t117))) = some (r1, r2) := H
    have A6 := Aside0.mk A60
    clear A60
    by_cases c7 : t117 = 0
    · rw [if_pos c7] at H
      have c7b0 : (t117 == 0) = true := beq_iff_eq.mpr c7
      have c7b1 : (t117 != 0) = false := bne_eq_false_iff_eq.mpr c7
      clear c7
      replace H := Option.bind_eq_some_iff.mp H
      obtain ⟨⟨t118, t119⟩, A80, H⟩ := H
      replace H : (rope_Merge.l0 k l1 l2 t115 ([] : List (S93)) t118 (t118.length : Int) 0) = some (r1, r2) := H
      have A8 := Aside0.mk A80
      clear A80
      have H' := Aside0.mk H
      clear H
      go_enter Try.func41, Try.ntmps41
      go_wp2_with (first | ((with_reducible refine gate_callee (f := 18) rfl ?_); refine goesL_ (some 25) rfl rfl Try.func18 (by kernel_rfl) rfl #[.string a0, .slice A1 l1.length c1] rfl (by (try simp only [List.map_toArray, List.map_cons, List.map_nil]); first | done | rfl | (simp only [List.length_drop, List.length_take]; rfl)) ?_; (with_reducible refine (rope_Apply.calls k a0 _ _ l1 t115 t116 _ ?side1 ?side2 A4.out).mono ?_); (case side1 => repeat (first | exact HR1.out | (with_reducible refine Kd.C_alloc ?_ _) | (with_reducible refine Kd.C_drewN ?_ _) | (with_reducible refine Kd.C_drew ?_))); (case side2 => exact HC1.out); rintro e w9 ⟨rfl, hb⟩; refine ⟨_, rfl, ?_⟩; have n0_ := Aside0.mk (below_step (by repeat (first | (with_reducible first | exact HB.out | apply below_alloc | apply pw_below_drewN | apply below_drew1) | exact HB.out)) hb); clear HB; have HB := n0_; clear n0_; (try clear hb); (try clear hb2); (try clear hk); (try clear hi)) | ((with_reducible refine gate_callee (f := 20) rfl ?_); refine goesL_ (some 33) rfl rfl Try.func20 (by kernel_rfl) rfl #[.string t115, .slice A2 l2.length c2] rfl (by (try simp only [List.map_toArray, List.map_cons, List.map_nil]); first | done | rfl | (simp only [List.length_drop, List.length_take]; rfl)) ?_; (with_reducible refine (rope_Check.calls k t115 _ _ l2 t117 _ ?side1 ?side2 A6.out).mono ?_); (case side1 => repeat (first | exact (Kd.C_below HR2.out HB.out) | (with_reducible refine Kd.C_alloc ?_ _) | (with_reducible refine Kd.C_drewN ?_ _) | (with_reducible refine Kd.C_drew ?_))); (case side2 => exact HC2.out); rintro e w10 ⟨rfl, hb⟩; refine ⟨_, rfl, ?_⟩; have n0_ := Aside0.mk (below_step (by repeat (first | (with_reducible first | exact HB.out | apply below_alloc | apply pw_below_drewN | apply below_drew1) | exact HB.out)) hb); clear HB; have HB := n0_; clear n0_; (try clear hb); (try clear hb2); (try clear hk); (try clear hi)) | ((with_reducible refine gate_callee (f := 19) rfl ?_); refine goesL_ (some 40) rfl rfl Try.func19 (by kernel_rfl) rfl #[.string a0, .slice A1 l1.length c1] rfl (by (try simp only [List.map_toArray, List.map_cons, List.map_nil]); first | done | rfl | (simp only [List.length_drop, List.length_take]; rfl)) ?_; (with_reducible refine (rope_Invert.calls k a0 _ _ l1 t118 t119 _ ?side1 ?side2 A8.out).mono ?_); (case side1 => repeat (first | exact (Kd.C_below HR1.out HB.out) | (with_reducible refine Kd.C_alloc ?_ _) | (with_reducible refine Kd.C_drewN ?_ _) | (with_reducible refine Kd.C_drew ?_))); (case side2 => exact HC1.out); rintro e w11 ⟨v120, rfl, ho0, hb⟩; refine ⟨_, rfl, ?_⟩; have n0_ := Aside0.mk (Kd.R_lower ho0 (below_size (by repeat (first | (with_reducible first | exact HB.out | apply below_alloc | apply pw_below_drewN | apply below_drew1) | exact HB.out)))); have n1_ := Aside0.mk (below_step (by repeat (first | (with_reducible first | exact HB.out | apply below_alloc | apply pw_below_drewN | apply below_drew1) | exact HB.out)) hb); clear HB; have HO121 := n0_; have HB := n1_; clear n0_ n1_; (try clear hb); (try clear hb2); (try clear hk); (try clear hi); (try clear ho0); obtain ⟨Ao12, co12, eo12⟩ := Kd.R_slice HO121.out; subst eo12))
      go_loopg [13, 45] k (fun kq v13 v45 w' => ∃ (x13_1 : List (S93)) (x45_1 : Int), v45 = .int .i64 x45_1 ∧ Aside0 (rope_Merge.l0 kq l1 l2 t115 x13_1 t118 (t118.length : Int) x45_1 = some (r1, r2)) ∧ Aside0 (kq ≤ k) ∧ Aside0 (Kd.R k93 93 w' w.heap.size (fun _ => True) v13 x13_1) ∧ Aside0 (Kd.R k47 47 w' w.heap.size (fun _ => True) (.slice Ao12 t118.length co12) t118) ∧ Aside0 (Below w.heap.size w w'))
      case atStart => exact ⟨(([] : List (S93))), (0), (by first | rfl | (simp; done) | (simp [*]; done)), H', ⟨Nat.le_refl _⟩, ⟨by first | exact Kd.R_nil _ _ _ _ _ | exact Kd.N_nil _ _ _ _ _ | exact Kd.V_nil _ _ _ _ _ | exact Kd.Q_nil _ _ _ _ _ | exact Kd.S_nil _ _ _ _ _⟩, ⟨by (with_reducible repeat (first | apply Kd.R_alloc | apply Kd.R_drewN | apply Kd.R_drew)); exact HO121.out⟩, ⟨by repeat (first | (with_reducible first | exact HB.out | apply below_alloc | apply pw_below_drewN | apply below_drew1) | exact HB.out)⟩⟩
      case round =>
        clear H'
        try clear c1
        try clear c2
        try clear p2
        try clear c4
        try clear c5
        try clear c5b0
        try clear c5b1
        try clear c7
        try clear c7b0
        try clear c7b1
        obtain ⟨x13_1, x45_1, rfl, HA, HK1, HO_13, HO_43, HB⟩ := hrel
        cases gk with
        | zero => exact absurd HA.out (by simp [rope_Merge.l0])
        | succ k1 =>
          have H := HA.out
          clear HA
          simp only [rope_Merge.l0] at H
          by_cases c13 : x45_1 < (t118.length : Int)
          · rw [if_pos c13] at H
            have c13b0 : decide (x45_1 < (t118.length : Int)) = true := decide_eq_true c13
            clear c13
            by_cases c14 : 0 ≤ x45_1
            · rw [if_pos c14] at H
              have c14b0 : decide (0 ≤ x45_1) = true := decide_eq_true c14
              clear c14
              by_cases c15 : x45_1 < (t118.length : Int)
              · rw [if_pos c15] at H
                have c15b0 : decide (x45_1 < (t118.length : Int)) = true := decide_eq_true c15
                clear c15
                by_cases c16 : x45_1 < (l1.length : Int)
                · rw [if_pos c16] at H
                  have c16b0 : decide (x45_1 < (l1.length : Int)) = true := decide_eq_true c16
                  clear c16
                  by_cases c17 : x13_1.length < 2513169434916
                  · rw [if_pos c17] at H
                    have LMc17 := Aside0.mk c17
                    clear c17
                    obtain ⟨y125, hy125⟩ : ∃ y_ : List (S93), y_ = (x13_1 ++ [(⟨(rd_T47 t118 x45_1).f0, (rd_T47 t118 x45_1).f1, true, (⟨(rd_T47 l1 x45_1).f0, (rd_T47 l1 x45_1).f1, (rd_T47 l1 x45_1).f2⟩ : S47)⟩ : S93)]) := ⟨_, rfl⟩
                    replace H : (rope_Merge.l0 k1 l1 l2 t115 y125 t118 (t118.length : Int) (wrap64 (x45_1 + 1))) = some (r1, r2) := by first | (rw [hy125]; with_reducible exact H) | (have H2_ := (Option.bind_some _ _).symm.trans H; rw [hy125]; with_reducible exact H2_) | (have H2_ := (Option.bind_some _ _).symm.trans H; with_reducible exact H2_) | with_reducible exact H | (rw [hy125]; exact H) | exact H
                    have Ny125 := Aside0.mk hy125
                    clear hy125
                    have H' := Aside0.mk H
                    clear H
                    have p122 : 0 ≤ (x45_1 : Int) := of_decide_eq_true (by first | (with_reducible assumption) | assumption)
                    have q122 : x45_1 < (t118.length : Int) := of_decide_eq_true (by first | (with_reducible assumption) | assumption)
                    obtain ⟨ad122, e122, hx122_0, hx122_1, hx122_2⟩ := at_T47 (Kd.R_reads' HO_43.out).2.2 x45_1 p122 q122
                    cases e122
                    replace p122 := eq_true p122
                    replace q122 := eq_true q122
                    try go_wp2_with (first | ((with_reducible refine gate_dst (N := 16) rfl ?_); refine box_event ?hg (N := 16) ?hd (cs := #[.int .i64 0, .int .i64 0, .string (⟨#[]⟩ : ByteArray)]) (t := 47) ?hr ?_; (case hd => rfl); (case hg => rfl); (case hr => first | (go_simp; done) | (go_simp; rfl)); intro gb123 hg w18 hbox hb; have n0_ := Aside0.mk (Kd.R_below (by (with_reducible repeat (first | apply Kd.R_alloc | apply Kd.R_drewN | apply Kd.R_drew)); exact HO_13.out) hb); have n1_ := Aside0.mk (Kd.R_below (Kd.R_elderB (by (with_reducible repeat (first | apply Kd.R_alloc | apply Kd.R_drewN | apply Kd.R_drew)); exact HO_43.out) gb123 (Nat.le_of_eq hg.symm)) hb); have n2_ := Aside0.mk (below_step (by repeat (first | (with_reducible first | exact HB.out | apply below_alloc | apply pw_below_drewN | apply below_drew1) | exact HB.out)) hb); have n3_ := Aside0.mk (hbox); have n4_ := Aside0.mk ((by rw [hg]; exact (below_size (by repeat (first | (with_reducible first | exact HB.out | apply below_alloc | apply pw_below_drewN | apply below_drew1) | exact HB.out))) : w.heap.size ≤ gb123)); have n5_ := Aside0.mk ((by rw [hg]; exact (below_size (by repeat (first | (with_reducible first | exact HB.out | apply below_alloc | apply pw_below_drewN | apply below_drew1) | exact HB.out))) : w.heap.size ≤ gb123)); clear HO_13; clear HO_43; clear HB; have HO_13 := n0_; have HO_43 := n1_; have HB := n2_; have BK123 := n3_; have GW123 := n4_; have GE123 := n5_; clear n0_ n1_ n2_ n3_ n4_ n5_; clear hb hbox hg; have hcz19_0 : w18.cell? ⟨gb123, 0, none⟩ = some (.int .i64 0) := (blk_cell BK123.out 0).trans rfl; have hcz19_1 : w18.cell? ⟨gb123, 1, none⟩ = some (.int .i64 0) := (blk_cell BK123.out 1).trans rfl; have hcz19_2 : w18.cell? ⟨gb123, 2, none⟩ = some (.string (⟨#[]⟩ : ByteArray)) := (blk_cell BK123.out 2).trans rfl; have hfz19_0 := blk_frozen BK123.out 0; have hfz19_1 := blk_frozen BK123.out 1; have hfz19_2 := blk_frozen BK123.out 2))
                    have n0_ : Aside0 (Kd.R k93 93 (((w18.setCell ⟨gb123, 0, none⟩ (.int .i64 ((rd_T47 t118 x45_1).f0))).setCell ⟨gb123, 1, none⟩ (.int .i64 ((rd_T47 t118 x45_1).f1))).setCell ⟨gb123, 2, none⟩ (.string ((rd_T47 t118 x45_1).f2))) w.heap.size (fun _ => True) u13 x13_1) := ⟨by (with_reducible repeat (first | apply Kd.R_alloc | apply Kd.R_drewN | apply Kd.R_drew)); exact Kd.R_mono (Kd.R_far (p := ⟨gb123, 2, none⟩) (Kd.R_far (p := ⟨gb123, 1, none⟩) (Kd.R_far (p := ⟨gb123, 0, none⟩) (Kd.R_types HO_13.out BK123.out (by decide)) (fun _ hk => hk.2) (.int .i64 ((rd_T47 t118 x45_1).f0))) (fun _ hk => hk.2) (.int .i64 ((rd_T47 t118 x45_1).f1))) (fun _ hk => hk.2) (.string ((rd_T47 t118 x45_1).f2))) (fun _ hk => trivial)⟩
                    have n1_ : Aside0 (Kd.R k47 47 (((w18.setCell ⟨gb123, 0, none⟩ (.int .i64 ((rd_T47 t118 x45_1).f0))).setCell ⟨gb123, 1, none⟩ (.int .i64 ((rd_T47 t118 x45_1).f1))).setCell ⟨gb123, 2, none⟩ (.string ((rd_T47 t118 x45_1).f2))) w.heap.size (fun k_ => k_ ≠ gb123) (.slice (some ad122) t118.length co12) t118) := ⟨by (with_reducible repeat (first | apply Kd.R_alloc | apply Kd.R_drewN | apply Kd.R_drew)); exact Kd.R_mono (Kd.R_far (p := ⟨gb123, 2, none⟩) (Kd.R_far (p := ⟨gb123, 1, none⟩) (Kd.R_far (p := ⟨gb123, 0, none⟩) (Kd.R_mono HO_43.out (fun k_ hk => (⟨hk, hk.2⟩ : _ ∧ k_ ≠ gb123))) (fun _ hk => hk.2) (.int .i64 ((rd_T47 t118 x45_1).f0))) (fun _ hk => hk.2) (.int .i64 ((rd_T47 t118 x45_1).f1))) (fun _ hk => hk.2) (.string ((rd_T47 t118 x45_1).f2))) (fun _ hk => hk.1.2)⟩
                    have n2_ : Aside0 ((((w18.setCell ⟨gb123, 0, none⟩ (.int .i64 ((rd_T47 t118 x45_1).f0))).setCell ⟨gb123, 1, none⟩ (.int .i64 ((rd_T47 t118 x45_1).f1))).setCell ⟨gb123, 2, none⟩ (.string ((rd_T47 t118 x45_1).f2))).heap[gb123]? = some (.cells #[.int .i64 ((rd_T47 t118 x45_1).f0), .int .i64 ((rd_T47 t118 x45_1).f1), .string ((rd_T47 t118 x45_1).f2)] 47 (0, 0))) := ⟨by (with_reducible repeat (first | refine blk_drewN ?_ _ | refine blk_drew ?_ | refine blk_alloc ?_ _)); refine blk_put (cs := #[.int .i64 ((rd_T47 t118 x45_1).f0), .int .i64 ((rd_T47 t118 x45_1).f1), .string (⟨#[]⟩ : ByteArray)]) ?_ 2 _ rfl; (with_reducible repeat (first | refine blk_drewN ?_ _ | refine blk_drew ?_ | refine blk_alloc ?_ _)); refine blk_put (cs := #[.int .i64 ((rd_T47 t118 x45_1).f0), .int .i64 0, .string (⟨#[]⟩ : ByteArray)]) ?_ 1 _ rfl; (with_reducible repeat (first | refine blk_drewN ?_ _ | refine blk_drew ?_ | refine blk_alloc ?_ _)); refine blk_put (cs := #[.int .i64 0, .int .i64 0, .string (⟨#[]⟩ : ByteArray)]) ?_ 0 _ rfl; (with_reducible repeat (first | refine blk_drewN ?_ _ | refine blk_drew ?_ | refine blk_alloc ?_ _)); exact BK123.out⟩
                    have n3_ : Aside0 (Below w.heap.size w (((w18.setCell ⟨gb123, 0, none⟩ (.int .i64 ((rd_T47 t118 x45_1).f0))).setCell ⟨gb123, 1, none⟩ (.int .i64 ((rd_T47 t118 x45_1).f1))).setCell ⟨gb123, 2, none⟩ (.string ((rd_T47 t118 x45_1).f2)))) := ⟨by repeat (first | (with_reducible first | exact HB.out | apply below_alloc | apply pw_below_drewN | apply below_drew1 | refine below_set ?_ GE123.out) | exact HB.out)⟩
                    (try clear HO_13)
                    (try clear HO_43)
                    (try clear BK123)
                    (try clear HB)
                    generalize (((w18.setCell ⟨gb123, 0, none⟩ (.int .i64 ((rd_T47 t118 x45_1).f0))).setCell ⟨gb123, 1, none⟩ (.int .i64 ((rd_T47 t118 x45_1).f1))).setCell ⟨gb123, 2, none⟩ (.string ((rd_T47 t118 x45_1).f2))) = w20 at n0_ n1_ n2_ n3_ ⊢
                    have HO_13 := n0_
                    have HO_43 := n1_
                    have BK123 := n2_
                    have HB := n3_
                    clear n0_ n1_ n2_ n3_
                    have n0_ := Aside0.mk (Kd.R_drew HO_13.out)
                    have n1_ := Aside0.mk (Kd.R_drew HO_43.out)
                    have n2_ := Aside0.mk (blk_drew BK123.out)
                    have n3_ := Aside0.mk (below_drew1 HB.out)
                    clear HO_13
                    clear HO_43
                    clear BK123
                    clear HB
                    have HO_13 := n0_
                    have HO_43 := n1_
                    have BK123 := n2_
                    have HB := n3_
                    clear n0_ n1_ n2_ n3_
                    have p124 : 0 ≤ (x45_1 : Int) := of_decide_eq_true (by first | (with_reducible assumption) | assumption)
                    have q124 : x45_1 < (l1.length : Int) := of_decide_eq_true (by first | (with_reducible assumption) | assumption)
                    obtain ⟨ad124, e124, hx124_0, hx124_1, hx124_2⟩ := at_T47 HR1.out x45_1 p124 q124
                    have hw124_2 := hx124_2
                    have hw124_1 := hx124_1
                    have hw124_0 := hx124_0
                    cases e124
                    replace hx124_0 := (HB.out.cell (World.block_lt_of_cell? w _ hx124_0)).trans hx124_0
                    replace hx124_1 := (HB.out.cell (World.block_lt_of_cell? w _ hx124_1)).trans hx124_1
                    replace hx124_2 := (HB.out.cell (World.block_lt_of_cell? w _ hx124_2)).trans hx124_2
                    replace p124 := eq_true p124
                    replace q124 := eq_true q124
                    refine start_ (n := 13) (S := fun w' => w'.cell? ⟨gb123, 0, none⟩ = some (.int .i64 ((rd_T47 t118 x45_1).f0)) ∧ w'.cell? ⟨gb123, 1, none⟩ = some (.int .i64 ((rd_T47 t118 x45_1).f1)) ∧ w'.cell? ⟨gb123, 2, none⟩ = some (.string ((rd_T47 t118 x45_1).f2)) ∧ w'.cell? (ad124.add ((x45_1).toNat * 3)) = some (.int .i64 ((rd_T47 l1 x45_1).f0)) ∧ w'.cell? ⟨(ad124.add ((x45_1).toNat * 3)).block, (ad124.add ((x45_1).toNat * 3)).off + 1, none⟩ = some (.int .i64 ((rd_T47 l1 x45_1).f1)) ∧ w'.cell? ⟨(ad124.add ((x45_1).toNat * 3)).block, (ad124.add ((x45_1).toNat * 3)).off + 2, none⟩ = some (.string ((rd_T47 l1 x45_1).f2))) (ds := []) #[false, false, false, false, false, false, false, false, false, false, false, false, false] (by kernel_rfl) rfl rfl ⟨(blk_cell BK123.out 0).trans rfl, (blk_cell BK123.out 1).trans rfl, (blk_cell BK123.out 2).trans rfl, ((HB.out.cell (World.block_lt_of_cell? w _ hw124_0)).trans hw124_0), ((HB.out.cell (World.block_lt_of_cell? w _ hw124_1)).trans hw124_1), ((HB.out.cell (World.block_lt_of_cell? w _ hw124_2)).trans hw124_2)⟩ (fun hHeld => ?_); refine with_tabW rope_Merge.tab12 rope_Merge.bits12 (fun HT_ HW_ => ?_)
                    generalize w20.drew = w21 at HO_13 HO_43 BK123 HB hx124_0 hx124_1 hx124_2 hHeld ⊢
                    refine pure_ (i := 0) (N := some 50) (v := ?_) (a' := ?_) #[true, false, false, false, false, false, false, false, false, false, false, false, false] rfl rfl (any_of HT_.out (by kernel_rfl)) (fun _ _ _ h => h) (Or.inl ⟨by rfl, ?_⟩) ?_ ?_
                    rotate_left
                    · intro w'
                      go_simp
                      with_reducible rfl
                    rotate_left
                    · simp only [Act.put, List.setIfInBounds_toArray, List.set_cons_zero, List.set_cons_succ, i64_w, i32_w]
                      rfl
                    refine pure_ (i := 1) (N := some 51) (v := ?_) (a' := ?_) #[true, true, false, false, false, false, false, false, false, false, false, false, false] rfl rfl (any_of HT_.out (by kernel_rfl)) (fun _ _ _ h => h) (Or.inl ⟨by rfl, ?_⟩) ?_ ?_
                    rotate_left
                    · intro w'
                      go_simp
                      with_reducible rfl
                    rotate_left
                    · simp only [Act.put, List.setIfInBounds_toArray, List.set_cons_zero, List.set_cons_succ, i64_w, i32_w]
                      rfl
                    refine pure_ (i := 3) (N := some 53) (v := ?_) (a' := ?_) #[true, true, false, true, false, false, false, false, false, false, false, false, false] rfl rfl (any_of HT_.out (by kernel_rfl)) (fun _ _ _ h => h) (Or.inl ⟨by rfl, ?_⟩) ?_ ?_
                    rotate_left
                    · intro w'
                      go_simp
                      with_reducible rfl
                    rotate_left
                    · simp only [Act.put, List.setIfInBounds_toArray, List.set_cons_zero, List.set_cons_succ, i64_w, i32_w]
                      rfl
                    refine pure_ (i := 5) (N := some 55) (v := ?_) (a' := ?_) #[true, true, false, true, false, true, false, false, false, false, false, false, false] rfl rfl (any_of HT_.out (by kernel_rfl)) (fun _ _ _ h => h) (Or.inl ⟨by rfl, ?_⟩) ?_ ?_
                    rotate_left
                    · intro w'
                      go_simp
                      with_reducible rfl
                    rotate_left
                    · simp only [Act.put, List.setIfInBounds_toArray, List.set_cons_zero, List.set_cons_succ, i64_w, i32_w]
                      rfl
                    refine pure_ (i := 6) (N := some 56) (v := ?_) (a' := ?_) #[true, true, false, true, false, true, true, false, false, false, false, false, false] rfl rfl (any_of HT_.out (by kernel_rfl)) (fun _ _ _ h => h) (Or.inl ⟨by rfl, ?_⟩) ?_ ?_
                    rotate_left
                    · intro w'
                      go_simp
                      with_reducible rfl
                    rotate_left
                    · simp only [Act.put, List.setIfInBounds_toArray, List.set_cons_zero, List.set_cons_succ, i64_w, i32_w]
                      rfl
                    refine pure_ (i := 7) (N := some 57) (v := ?_) (a' := ?_) #[true, true, false, true, false, true, true, true, false, false, false, false, false] rfl rfl (any_of HT_.out (by kernel_rfl)) (fun _ _ _ h => h) (Or.inl ⟨by rfl, ?_⟩) ?_ ?_
                    rotate_left
                    · intro w'
                      go_simp
                      with_reducible rfl
                    rotate_left
                    · simp only [Act.put, List.setIfInBounds_toArray, List.set_cons_zero, List.set_cons_succ, i64_w, i32_w]
                      rfl
                    refine take_ (i := 2) (N := some 52) (v := ?_) (a' := ?_) #[true, true, true, true, false, true, true, true, false, false, false, false, false] rfl rfl (take_ofW HT_.out HW_.out (by kernel_rfl)) (fun _ _ _ h => h) (Or.inl ⟨by rfl, ?_⟩) hHeld ?_ ?_
                    rotate_left
                    · rintro w' ⟨s0, s1, s2, s3, s4, s5⟩
                      go_simp
                      with_reducible rfl
                    rotate_left
                    · simp only [Act.put, List.setIfInBounds_toArray, List.set_cons_zero, List.set_cons_succ, i64_w, i32_w]
                      rfl
                    refine take_ (i := 4) (N := some 54) (v := ?_) (a' := ?_) #[true, true, true, true, true, true, true, true, false, false, false, false, false] rfl rfl (take_ofW HT_.out HW_.out (by kernel_rfl)) (fun _ _ _ h => h) (Or.inl ⟨by rfl, ?_⟩) hHeld ?_ ?_
                    rotate_left
                    · rintro w' ⟨s0, s1, s2, s3, s4, s5⟩
                      go_simp
                      with_reducible rfl
                    rotate_left
                    · simp only [Act.put, List.setIfInBounds_toArray, List.set_cons_zero, List.set_cons_succ, i64_w, i32_w]
                      rfl
                    refine take_ (i := 8) (N := some 58) (v := ?_) (a' := ?_) #[true, true, true, true, true, true, true, true, true, false, false, false, false] rfl rfl (take_ofW HT_.out HW_.out (by kernel_rfl)) (fun _ _ _ h => h) (Or.inl ⟨by rfl, ?_⟩) hHeld ?_ ?_
                    rotate_left
                    · rintro w' ⟨s0, s1, s2, s3, s4, s5⟩
                      go_simp
                      with_reducible rfl
                    rotate_left
                    · simp only [Act.put, List.setIfInBounds_toArray, List.set_cons_zero, List.set_cons_succ, i64_w, i32_w]
                      rfl
                    refine pure_ (i := 9) (N := some 59) (v := ?_) (a' := ?_) #[true, true, true, true, true, true, true, true, true, true, false, false, false] rfl rfl (any_of HT_.out (by kernel_rfl)) (fun _ _ _ h => h) (Or.inl ⟨by rfl, ?_⟩) ?_ ?_
                    rotate_left
                    · intro w'
                      go_simp
                      with_reducible rfl
                    rotate_left
                    · simp only [Act.put, List.setIfInBounds_toArray, List.set_cons_zero, List.set_cons_succ, i64_w, i32_w]
                      rfl
                    refine one_ (i := 10) (N := some 60) #[true, true, true, true, true, true, true, true, true, true, true, false, false] rfl rfl (one_of HT_.out (by kernel_rfl)) (by decide) (fun K hK => ?_)
                    refine value_ (w1 := ?_) (v := ?_) (by rfl) rfl ?_ ?_
                    rotate_left 2
                    · go_simp
                      constructor
                      · rfl
                      · rfl
                    refine hK.out _ _ ⟨(blk_cell (blk_alloc BK123.out _) 0).trans rfl, (blk_cell (blk_alloc BK123.out _) 1).trans rfl, (blk_cell (blk_alloc BK123.out _) 2).trans rfl, (World.cell?_alloc_lt _ _ _ (World.block_lt_of_cell? _ _ (((HB.out.cell (World.block_lt_of_cell? w _ hw124_0)).trans hw124_0)))).trans (((HB.out.cell (World.block_lt_of_cell? w _ hw124_0)).trans hw124_0)), (World.cell?_alloc_lt _ _ _ (World.block_lt_of_cell? _ _ (((HB.out.cell (World.block_lt_of_cell? w _ hw124_1)).trans hw124_1)))).trans (((HB.out.cell (World.block_lt_of_cell? w _ hw124_1)).trans hw124_1)), (World.cell?_alloc_lt _ _ _ (World.block_lt_of_cell? _ _ (((HB.out.cell (World.block_lt_of_cell? w _ hw124_2)).trans hw124_2)))).trans (((HB.out.cell (World.block_lt_of_cell? w _ hw124_2)).trans hw124_2))⟩ (fun hHeld => ?_)
                    clear hK K
                    refine norm_ (a' := ?_) ?_ ?_
                    rotate_left
                    · show Act.put _ (some 60) _ = _
                      simp only [Act.put, List.setIfInBounds_toArray, List.set_cons_zero, List.set_cons_succ, i64_w, i32_w]
                      rfl
                    refine one_ (i := 11) (N := some 61) #[true, true, true, true, true, true, true, true, true, true, true, true, false] rfl rfl (one_of HT_.out (by kernel_rfl)) (by decide) (fun K hK => ?_)
                    refine Kd.R_append_step k93 (w0 := w) w.heap.size (by rfl) (.tmp 50) (.tmp 60) 91 93 (.agg #[(.int .i64 0), (.int .i64 0), (.bool false), (.int .i64 0), (.int .i64 0), (.string ⟨#[]⟩)]) 56 rfl Try.underlying91 info93 rfl (by decide) (by omega) u13 x13_1 (⟨(rd_T47 t118 x45_1).f0, (rd_T47 t118 x45_1).f1, true, (⟨(rd_T47 l1 x45_1).f0, (rd_T47 l1 x45_1).f1, (rd_T47 l1 x45_1).f2⟩ : S47)⟩ : S93) [.int .i64 ((rd_T47 t118 x45_1).f0), .int .i64 ((rd_T47 t118 x45_1).f1), .bool true, .int .i64 ((rd_T47 l1 x45_1).f0), .int .i64 ((rd_T47 l1 x45_1).f1), .string ((rd_T47 l1 x45_1).f2)] (fun _ => True) (fun _ => False) rfl rfl ?aP (fun _ hk => hk.elim) ?aF ?aO ?aB ?aS ?aL ?_
                    (case aP => exact k93_mkM _ _ _ (⟨(rd_T47 t118 x45_1).f0, (rd_T47 t118 x45_1).f1, true, (⟨(rd_T47 l1 x45_1).f0, (rd_T47 l1 x45_1).f1, (rd_T47 l1 x45_1).f2⟩ : S47)⟩ : S93))
                    (case aB => exact (by repeat (first | (with_reducible first | exact HB.out | apply below_alloc | apply pw_below_drewN | apply below_drew1 | refine below_set ?_ GE123.out) | exact HB.out)))
                    (case aF => exact (fun _ _ => trivial))
                    (case aO => exact (by (with_reducible repeat (first | apply Kd.R_alloc | apply Kd.R_drewN | apply Kd.R_drew)); exact HO_13.out))
                    (case aS => exact (below_size (by repeat (first | (with_reducible first | exact HB.out | apply below_alloc | apply pw_below_drewN | apply below_drew1 | refine below_set ?_ GE123.out) | exact HB.out))))
                    (case aL => have := LMc17.out; omega)
                    intro v126 w22 ho hb hg hat
                    rw [← Ny125.out] at ho
                    have n0_ := Aside0.mk (Kd.R_over' (by (with_reducible repeat (first | apply Kd.R_alloc | apply Kd.R_drewN | apply Kd.R_drew)); exact HO_43.out) (Kd.R_typed (by (with_reducible repeat (first | apply Kd.R_alloc | apply Kd.R_drewN | apply Kd.R_drew)); exact HO_13.out)) (by decide) hg)
                    have n1_ := Aside0.mk (blk_grown (g := gb123) (o := .cells #[.int .i64 ((rd_T47 t118 x45_1).f0), .int .i64 ((rd_T47 t118 x45_1).f1), .string ((rd_T47 t118 x45_1).f2)] 47 (0, 0)) (by (with_reducible repeat (first | refine blk_drewN ?_ _ | refine blk_drew ?_ | refine blk_alloc ?_ _)); exact BK123.out) hg (Kd.R_ne HO_13.out BK123.out (by decide)))
                    have n2_ := Aside0.mk (hb)
                    have n3_ := Aside0.mk (ho)
                    clear HO_43
                    clear BK123
                    clear HB
                    clear HO_13
                    have HO_43 := n0_
                    have BK123 := n1_
                    have HB := n2_
                    have HO127 := n3_
                    clear n0_ n1_ n2_ n3_
                    clear ho hb hg hat
                    refine hK.out _ _ ⟨(blk_cell BK123.out 0).trans rfl, (blk_cell BK123.out 1).trans rfl, (blk_cell BK123.out 2).trans rfl, ((HB.out.cell (World.block_lt_of_cell? w _ hw124_0)).trans hw124_0), ((HB.out.cell (World.block_lt_of_cell? w _ hw124_1)).trans hw124_1), ((HB.out.cell (World.block_lt_of_cell? w _ hw124_2)).trans hw124_2)⟩ (fun hHeld => ?_)
                    clear hK K
                    refine norm_ (a' := ?_) ?_ ?_
                    rotate_left
                    · show Act.put _ (some 61) _ = _
                      simp only [Act.put, List.setIfInBounds_toArray, List.set_cons_zero, List.set_cons_succ, i64_w, i32_w]
                      rfl
                    refine pure_ (i := 12) (N := some 13) (v := ?_) (a' := ?_) #[true, true, true, true, true, true, true, true, true, true, true, true, true] rfl rfl (any_of HT_.out (by kernel_rfl)) (fun _ _ _ h => h) (Or.inl ⟨by rfl, ?_⟩) ?_ ?_
                    rotate_left
                    · intro w'
                      go_simp
                      with_reducible rfl
                    rotate_left
                    · simp only [Act.put, List.setIfInBounds_toArray, List.set_cons_zero, List.set_cons_succ, i64_w, i32_w]
                      rfl
                    refine done_ (done_of HT_.out (by kernel_rfl)) ?_
                    try go_wp2
                    go_roundg k1
                    case measure => have := HK1.out; omega
                    case rel => exact ⟨(y125), (wrap64 (x45_1 + 1)), (by first | rfl | (simp; done) | (simp [*]; done)), H', ⟨by have := HK1.out; omega⟩, ⟨by (with_reducible repeat (first | apply Kd.R_alloc | apply Kd.R_drewN | apply Kd.R_drew)); exact HO127.out⟩, ⟨by (with_reducible repeat (first | apply Kd.R_alloc | apply Kd.R_drewN | apply Kd.R_drew)); exact Kd.R_mono HO_43.out (fun _ hk => trivial)⟩, ⟨by repeat (first | (with_reducible first | exact HB.out | apply below_alloc | apply pw_below_drewN | apply below_drew1 | refine below_set ?_ GE123.out) | exact HB.out)⟩⟩
                  · rw [if_neg c17] at H
                    exact absurd H (by simp)
                · rw [if_neg c16] at H
                  exact absurd H (by simp)
              · rw [if_neg c15] at H
                exact absurd H (by simp)
            · rw [if_neg c14] at H
              exact absurd H (by simp)
          · rw [if_neg c13] at H
            have c13b0 : decide (x45_1 < (t118.length : Int)) = false := decide_eq_false c13
            clear c13
            have H' := Aside0.mk H
            clear H
            go_wp2
            go_loopg [14, 65] k1 (fun kq v14 v65 w' => ∃ (x14_2 : List (S93)) (x65_2 : Int), v65 = .int .i64 x65_2 ∧ Aside0 (rope_Merge.l1 kq l1 t115 x13_1 x14_2 l2 (l2.length : Int) x65_2 = some (r1, r2)) ∧ Aside0 (kq ≤ k1) ∧ Aside0 (Kd.R k93 93 w' w.heap.size (fun k_ => some k_ ≠ (v14 : Value).ownBlock) u13 x13_1) ∧ Aside0 (Kd.R k93 93 w' w.heap.size (fun k_ => some k_ ≠ (u13 : Value).ownBlock) v14 x14_2) ∧ Aside0 (Below w.heap.size w w'))
            case atStart => exact ⟨(([] : List (S93))), (0), (by first | rfl | (simp; done) | (simp [*]; done)), H', ⟨Nat.le_refl _⟩, ⟨by (with_reducible repeat (first | apply Kd.R_alloc | apply Kd.R_drewN | apply Kd.R_drew)); exact Kd.R_mono HO_13.out (fun _ hk => (by simp [Value.ownBlock]))⟩, ⟨by first | exact Kd.R_nil _ _ _ _ _ | exact Kd.N_nil _ _ _ _ _ | exact Kd.V_nil _ _ _ _ _ | exact Kd.Q_nil _ _ _ _ _ | exact Kd.S_nil _ _ _ _ _⟩, ⟨by repeat (first | (with_reducible first | exact HB.out | apply below_alloc | apply pw_below_drewN | apply below_drew1) | exact HB.out)⟩⟩
            case round =>
              clear H'
              try clear c1
              try clear p1
              try clear q1
              try clear hx1
              try clear c2
              try clear p2
              try clear c4
              try clear c5
              try clear c5b0
              try clear c5b1
              try clear p6
              try clear c7
              try clear c7b0
              try clear c7b1
              try clear p12
              try clear q12
              try clear hx12
              try clear c13
              try clear c13b0
              try clear c14
              try clear c14b0
              try clear c15
              try clear c15b0
              try clear c16
              try clear c16b0
              try clear c17
              try clear c18
              try clear c19
              try clear c20
              try clear hcz19_0
              try clear hcz19_1
              try clear hcz19_2
              try clear hfz19_0
              try clear hfz19_1
              try clear hfz19_2
              try clear hx122_0
              try clear hx122_1
              try clear hx122_2
              try clear hx124_0
              try clear hx124_1
              try clear hx124_2
              try clear p122
              try clear p124
              try clear p2
              try clear q122
              try clear q124
              obtain ⟨x14_2, x65_2, rfl, HA, HK2, HO_13, HO_14, HB⟩ := hrel
              cases gk with
              | zero => exact absurd HA.out (by simp [rope_Merge.l1])
              | succ k2 =>
                have H := HA.out
                clear HA
                simp only [rope_Merge.l1] at H
                by_cases c23 : x65_2 < (l2.length : Int)
                · rw [if_pos c23] at H
                  have c23b0 : decide (x65_2 < (l2.length : Int)) = true := decide_eq_true c23
                  clear c23
                  by_cases c24 : 0 ≤ x65_2
                  · rw [if_pos c24] at H
                    have c24b0 : decide (0 ≤ x65_2) = true := decide_eq_true c24
                    clear c24
                    by_cases c25 : x65_2 < (l2.length : Int)
                    · rw [if_pos c25] at H
                      have c25b0 : decide (x65_2 < (l2.length : Int)) = true := decide_eq_true c25
                      clear c25
                      by_cases c26 : x14_2.length < 2513169434916
                      · rw [if_pos c26] at H
                        have LMc26 := Aside0.mk c26
                        clear c26
                        obtain ⟨y130, hy130⟩ : ∃ y_ : List (S93), y_ = (x14_2 ++ [(⟨(rd_T47 l2 x65_2).f0, (rd_T47 l2 x65_2).f1, false, (⟨(rd_T47 l2 x65_2).f0, (rd_T47 l2 x65_2).f1, (rd_T47 l2 x65_2).f2⟩ : S47)⟩ : S93)]) := ⟨_, rfl⟩
                        replace H : (rope_Merge.l1 k2 l1 t115 x13_1 y130 l2 (l2.length : Int) (wrap64 (x65_2 + 1))) = some (r1, r2) := by first | (rw [hy130]; with_reducible exact H) | (have H2_ := (Option.bind_some _ _).symm.trans H; rw [hy130]; with_reducible exact H2_) | (have H2_ := (Option.bind_some _ _).symm.trans H; with_reducible exact H2_) | with_reducible exact H | (rw [hy130]; exact H) | exact H
                        have Ny130 := Aside0.mk hy130
                        clear hy130
                        have H' := Aside0.mk H
                        clear H
                        have p128 : 0 ≤ (x65_2 : Int) := of_decide_eq_true (by first | (with_reducible assumption) | assumption)
                        have q128 : x65_2 < (l2.length : Int) := of_decide_eq_true (by first | (with_reducible assumption) | assumption)
                        obtain ⟨ad128, e128, hx128_0, hx128_1, hx128_2⟩ := at_T47 HR2.out x65_2 p128 q128
                        cases e128
                        replace hx128_0 := (HB.out.cell (World.block_lt_of_cell? w _ hx128_0)).trans hx128_0
                        replace hx128_1 := (HB.out.cell (World.block_lt_of_cell? w _ hx128_1)).trans hx128_1
                        replace hx128_2 := (HB.out.cell (World.block_lt_of_cell? w _ hx128_2)).trans hx128_2
                        replace p128 := eq_true p128
                        replace q128 := eq_true q128
                        go_wp2_with (first | ((with_reducible refine gate_dst (N := 18) rfl ?_); refine box_event ?hg (N := 18) ?hd (cs := #[.int .i64 0, .int .i64 0, .string (⟨#[]⟩ : ByteArray)]) (t := 47) ?hr ?_; (case hd => rfl); (case hg => rfl); (case hr => first | (go_simp; done) | (go_simp; rfl)); intro gb129 hg w27 hbox hb; have n0_ := Aside0.mk (Kd.R_below (by (with_reducible repeat (first | apply Kd.R_alloc | apply Kd.R_drewN | apply Kd.R_drew)); exact HO_13.out) hb); have n1_ := Aside0.mk (Kd.R_below (by (with_reducible repeat (first | apply Kd.R_alloc | apply Kd.R_drewN | apply Kd.R_drew)); exact HO_14.out) hb); have n2_ := Aside0.mk (below_step (by repeat (first | (with_reducible first | exact HB.out | apply below_alloc | apply pw_below_drewN | apply below_drew1) | exact HB.out)) hb); have n3_ := Aside0.mk (hbox); have n4_ := Aside0.mk ((by rw [hg]; exact (below_size (by repeat (first | (with_reducible first | exact HB.out | apply below_alloc | apply pw_below_drewN | apply below_drew1) | exact HB.out))) : w.heap.size ≤ gb129)); have n5_ := Aside0.mk ((by rw [hg]; exact (below_size (by repeat (first | (with_reducible first | exact HB.out | apply below_alloc | apply pw_below_drewN | apply below_drew1) | exact HB.out))) : w.heap.size ≤ gb129)); clear HO_13; clear HO_14; clear HB; have HO_13 := n0_; have HO_14 := n1_; have HB := n2_; have BK129 := n3_; have GW129 := n4_; have GE129 := n5_; clear n0_ n1_ n2_ n3_ n4_ n5_; clear hb hbox hg; have hcz28_0 : w27.cell? ⟨gb129, 0, none⟩ = some (.int .i64 0) := (blk_cell BK129.out 0).trans rfl; have hcz28_1 : w27.cell? ⟨gb129, 1, none⟩ = some (.int .i64 0) := (blk_cell BK129.out 1).trans rfl; have hcz28_2 : w27.cell? ⟨gb129, 2, none⟩ = some (.string (⟨#[]⟩ : ByteArray)) := (blk_cell BK129.out 2).trans rfl; have hfz28_0 := blk_frozen BK129.out 0; have hfz28_1 := blk_frozen BK129.out 1; have hfz28_2 := blk_frozen BK129.out 2) | ((with_reducible refine gate_builtin (b := .append) (xs := #[.tmp 69, .tmp 76]) rfl ?_); at_builtin; refine Kd.R_append k93 (w0 := w) w.heap.size rfl (.tmp 69) (.tmp 76) 91 93 (.agg #[(.int .i64 0), (.int .i64 0), (.bool false), (.int .i64 0), (.int .i64 0), (.string ⟨#[]⟩)]) 56 rfl Try.underlying91 info93 rfl (by decide) (by omega) u14 x14_2 (⟨(rd_T47 l2 x65_2).f0, (rd_T47 l2 x65_2).f1, false, (⟨(rd_T47 l2 x65_2).f0, (rd_T47 l2 x65_2).f1, (rd_T47 l2 x65_2).f2⟩ : S47)⟩ : S93) [.int .i64 ((rd_T47 l2 x65_2).f0), .int .i64 ((rd_T47 l2 x65_2).f1), .bool false, .int .i64 ((rd_T47 l2 x65_2).f0), .int .i64 ((rd_T47 l2 x65_2).f1), .string ((rd_T47 l2 x65_2).f2)] (fun k_ => some k_ ≠ (u13 : Value).ownBlock) (fun _ => False) rfl (by first | (go_simp; done) | (go_simp; rfl)) ?aP (fun _ hk => hk.elim) ?aF ?aO ?aB ?aS ?aL ?_; (case aP => exact k93_mkM _ _ _ (⟨(rd_T47 l2 x65_2).f0, (rd_T47 l2 x65_2).f1, false, (⟨(rd_T47 l2 x65_2).f0, (rd_T47 l2 x65_2).f1, (rd_T47 l2 x65_2).f2⟩ : S47)⟩ : S93)); (case aB => exact (by repeat (first | (with_reducible first | exact HB.out | apply below_alloc | apply pw_below_drewN | apply below_drew1 | refine below_set ?_ GE129.out) | exact HB.out))); (case aF => exact (fun k_ hk => Kd.fresh' (Kd.R_lt (by (with_reducible repeat (first | apply Kd.R_alloc | apply Kd.R_drewN | apply Kd.R_drew)); exact (Kd.R_mono (Kd.R_far (p := ⟨gb129, 2, none⟩) (Kd.R_far (p := ⟨gb129, 1, none⟩) (Kd.R_far (p := ⟨gb129, 0, none⟩) (Kd.R_types HO_13.out BK129.out (by decide)) (fun _ hk => hk.2) (.int .i64 ((rd_T47 l2 x65_2).f0))) (fun _ hk => hk.2) (.int .i64 ((rd_T47 l2 x65_2).f1))) (fun _ hk => hk.2) (.string ((rd_T47 l2 x65_2).f2))) (fun _ h_ => h_.1)))) k_ hk)); (case aO => exact (by (with_reducible repeat (first | apply Kd.R_alloc | apply Kd.R_drewN | apply Kd.R_drew)); exact Kd.R_mono (Kd.R_far (p := ⟨gb129, 2, none⟩) (Kd.R_far (p := ⟨gb129, 1, none⟩) (Kd.R_far (p := ⟨gb129, 0, none⟩) (Kd.R_types HO_14.out BK129.out (by decide)) (fun _ hk => hk.2) (.int .i64 ((rd_T47 l2 x65_2).f0))) (fun _ hk => hk.2) (.int .i64 ((rd_T47 l2 x65_2).f1))) (fun _ hk => hk.2) (.string ((rd_T47 l2 x65_2).f2))) (fun _ hk => hk.1))); (case aS => exact (below_size (by repeat (first | (with_reducible first | exact HB.out | apply below_alloc | apply pw_below_drewN | apply below_drew1 | refine below_set ?_ GE129.out) | exact HB.out)))); (case aL => have := LMc26.out; omega); intro v131 w29 ho hb hg hat; rw [← Ny130.out] at ho; have n0_ := Aside0.mk (Kd.R_after (ok := (fun _ => True)) (by (with_reducible repeat (first | apply Kd.R_alloc | apply Kd.R_drewN | apply Kd.R_drew)); exact Kd.R_mono (Kd.R_far (p := ⟨gb129, 2, none⟩) (Kd.R_far (p := ⟨gb129, 1, none⟩) (Kd.R_far (p := ⟨gb129, 0, none⟩) (Kd.R_types HO_13.out BK129.out (by decide)) (fun _ hk => hk.2) (.int .i64 ((rd_T47 l2 x65_2).f0))) (fun _ hk => hk.2) (.int .i64 ((rd_T47 l2 x65_2).f1))) (fun _ hk => hk.2) (.string ((rd_T47 l2 x65_2).f2))) (fun _ hk => ⟨trivial, hk.1⟩)) hg hat); have n1_ := Aside0.mk (blk_grown (g := gb129) (o := .cells #[.int .i64 ((rd_T47 l2 x65_2).f0), .int .i64 ((rd_T47 l2 x65_2).f1), .string ((rd_T47 l2 x65_2).f2)] 47 (0, 0)) (by (with_reducible repeat (first | refine blk_drewN ?_ _ | refine blk_drew ?_ | refine blk_alloc ?_ _)); refine blk_put (cs := #[.int .i64 ((rd_T47 l2 x65_2).f0), .int .i64 ((rd_T47 l2 x65_2).f1), .string (⟨#[]⟩ : ByteArray)]) ?_ 2 _ rfl; (with_reducible repeat (first | refine blk_drewN ?_ _ | refine blk_drew ?_ | refine blk_alloc ?_ _)); refine blk_put (cs := #[.int .i64 ((rd_T47 l2 x65_2).f0), .int .i64 0, .string (⟨#[]⟩ : ByteArray)]) ?_ 1 _ rfl; (with_reducible repeat (first | refine blk_drewN ?_ _ | refine blk_drew ?_ | refine blk_alloc ?_ _)); refine blk_put (cs := #[.int .i64 0, .int .i64 0, .string (⟨#[]⟩ : ByteArray)]) ?_ 0 _ rfl; (with_reducible repeat (first | refine blk_drewN ?_ _ | refine blk_drew ?_ | refine blk_alloc ?_ _)); exact BK129.out) hg (Kd.R_ne HO_14.out BK129.out (by decide))); have n2_ := Aside0.mk (hb); have n3_ := Aside0.mk (ho); clear HO_13; clear BK129; clear HB; clear HO_14; have HO_13 := n0_; have BK129 := n1_; have HB := n2_; have HO132 := n3_; clear n0_ n1_ n2_ n3_; clear ho hb hg hat))
                        go_roundg k2
                        case measure => have := HK1.out; have := HK2.out; omega
                        case rel => exact ⟨(y130), (wrap64 (x65_2 + 1)), (by first | rfl | (simp; done) | (simp [*]; done)), H', ⟨by have := HK1.out; have := HK2.out; omega⟩, ⟨by (with_reducible repeat (first | apply Kd.R_alloc | apply Kd.R_drewN | apply Kd.R_drew)); exact Kd.R_mono HO_13.out (fun _ hk => hk.2)⟩, ⟨by (with_reducible repeat (first | apply Kd.R_alloc | apply Kd.R_drewN | apply Kd.R_drew)); exact HO132.out⟩, ⟨by repeat (first | (with_reducible first | exact HB.out | apply below_alloc | apply pw_below_drewN | apply below_drew1 | refine below_set ?_ GE129.out) | exact HB.out)⟩⟩
                      · rw [if_neg c26] at H
                        exact absurd H (by simp)
                    · rw [if_neg c25] at H
                      exact absurd H (by simp)
                  · rw [if_neg c24] at H
                    exact absurd H (by simp)
                · rw [if_neg c23] at H
                  have c23b0 : decide (x65_2 < (l2.length : Int)) = false := decide_eq_false c23
                  clear c23
                  replace H := Option.bind_eq_some_iff.mp H
                  obtain ⟨t133, A300, H⟩ := H
                  replace H : (rope_Merge.l2 k2 l1 t115 ([] : List (S47)) t133 (t133.length : Int) 0) = some (r1, r2) := H
                  have A30 := Aside0.mk A300
                  clear A300
                  have H' := Aside0.mk H
                  clear H
                  obtain ⟨Ao31, co31, eo31⟩ := Kd.R_slice HO_13.out
                  subst eo31
                  obtain ⟨Ao32, co32, eo32⟩ := Kd.R_slice HO_14.out
                  subst eo32
                  go_wp2_with (first | ((with_reducible refine gate_callee (f := 55) rfl ?_); refine goesL_ (some 81) rfl rfl Try.func55 (by kernel_rfl) rfl #[.slice Ao31 x13_1.length co31, .slice Ao32 x14_2.length co32] rfl (by (try simp only [List.map_toArray, List.map_cons, List.map_nil]); first | done | rfl | (simp only [List.length_drop, List.length_take]; rfl)) ?_; (with_reducible refine (rope_groups.calls k2 _ _ x13_1 _ _ x14_2 t133 _ ?side1 ?side2 ?side3 ?side4 A30.out).mono ?_); (case side1 => repeat (first | exact (Kd.R_reads' HO_13.out).2.2 | (with_reducible refine Kd.C_alloc ?_ _) | (with_reducible refine Kd.C_drewN ?_ _) | (with_reducible refine Kd.C_drew ?_))); (case side2 => exact (Kd.R_reads' HO_13.out).2.1); (case side3 => repeat (first | exact (Kd.R_reads' HO_14.out).2.2 | (with_reducible refine Kd.C_alloc ?_ _) | (with_reducible refine Kd.C_drewN ?_ _) | (with_reducible refine Kd.C_drew ?_))); (case side4 => exact (Kd.R_reads' HO_14.out).2.1); rintro e w33 ⟨v134, rfl, ho0, hb⟩; refine ⟨_, rfl, ?_⟩; have n0_ := Aside0.mk (Kd.R_below (by (with_reducible repeat (first | apply Kd.R_alloc | apply Kd.R_drewN | apply Kd.R_drew)); exact HO_13.out) hb); have n1_ := Aside0.mk (Kd.R_below (by (with_reducible repeat (first | apply Kd.R_alloc | apply Kd.R_drewN | apply Kd.R_drew)); exact HO_14.out) hb); have n2_ := Aside0.mk (Kd.S_lower (Kd.S_new' (Kd.S_new' ho0 (Kd.R_lt (by (with_reducible repeat (first | apply Kd.R_alloc | apply Kd.R_drewN | apply Kd.R_drew)); exact HO_13.out))) (Kd.R_lt (by (with_reducible repeat (first | apply Kd.R_alloc | apply Kd.R_drewN | apply Kd.R_drew)); exact HO_14.out))) (below_size (by repeat (first | (with_reducible first | exact HB.out | apply below_alloc | apply pw_below_drewN | apply below_drew1) | exact HB.out)))); have n3_ := Aside0.mk (below_step (by repeat (first | (with_reducible first | exact HB.out | apply below_alloc | apply pw_below_drewN | apply below_drew1) | exact HB.out)) hb); clear HO_13; clear HO_14; clear HB; have HO_13 := n0_; have HO_14 := n1_; have HO135 := n2_; have HB := n3_; clear n0_ n1_ n2_ n3_; (try clear hb); (try clear hb2); (try clear hk); (try clear hi); (try clear ho0); obtain ⟨Ao34, co34, eo34⟩ := Kd.S_slice HO135.out; subst eo34))
                  go_loopg [19, 83] k2 (fun kq v19 v83 w' => ∃ (x19_3 : List (S47)) (x83_3 : Int), v83 = .int .i64 x83_3 ∧ Aside0 (rope_Merge.l2 kq l1 t115 x19_3 t133 (t133.length : Int) x83_3 = some (r1, r2)) ∧ Aside0 (kq ≤ k2) ∧ Aside0 (Kd.R k47 47 w' w.heap.size (fun _ => True) v19 x19_3) ∧ Aside0 (Kd.S (Kd.slice 93 k93) 91 w' w.heap.size (fun _ => True) (.slice Ao34 t133.length co34) t133) ∧ Aside0 (Below w.heap.size w w'))
                  case atStart => exact ⟨(([] : List (S47))), (0), (by first | rfl | (simp; done) | (simp [*]; done)), H', ⟨Nat.le_refl _⟩, ⟨by first | exact Kd.R_nil _ _ _ _ _ | exact Kd.N_nil _ _ _ _ _ | exact Kd.V_nil _ _ _ _ _ | exact Kd.Q_nil _ _ _ _ _ | exact Kd.S_nil _ _ _ _ _⟩, ⟨by (with_reducible repeat (first | apply Kd.S_alloc | apply Kd.S_drewN | apply Kd.S_drew)); exact Kd.S_mono HO135.out (fun _ hk => trivial)⟩, ⟨by repeat (first | (with_reducible first | exact HB.out | apply below_alloc | apply pw_below_drewN | apply below_drew1) | exact HB.out)⟩⟩
                  case round =>
                    clear H'
                    try clear c1
                    try clear p1
                    try clear q1
                    try clear hx1
                    try clear c2
                    try clear p2
                    try clear c4
                    try clear c5
                    try clear c5b0
                    try clear c5b1
                    try clear p6
                    try clear c7
                    try clear c7b0
                    try clear c7b1
                    try clear p12
                    try clear q12
                    try clear hx12
                    try clear c13
                    try clear c13b0
                    try clear c14
                    try clear c14b0
                    try clear c15
                    try clear c15b0
                    try clear c16
                    try clear c16b0
                    try clear c17
                    try clear c18
                    try clear c19
                    try clear c20
                    try clear c23
                    try clear c23b0
                    try clear c24
                    try clear c24b0
                    try clear c25
                    try clear c25b0
                    try clear c26
                    try clear hcz19_0
                    try clear hcz19_1
                    try clear hcz19_2
                    try clear hcz28_0
                    try clear hcz28_1
                    try clear hcz28_2
                    try clear hfz19_0
                    try clear hfz19_1
                    try clear hfz19_2
                    try clear hfz28_0
                    try clear hfz28_1
                    try clear hfz28_2
                    try clear hx122_0
                    try clear hx122_1
                    try clear hx122_2
                    try clear hx124_0
                    try clear hx124_1
                    try clear hx124_2
                    try clear hx128_0
                    try clear hx128_1
                    try clear hx128_2
                    try clear p1
                    try clear p12
                    try clear p122
                    try clear p124
                    try clear p128
                    try clear p2
                    try clear p6
                    try clear q1
                    try clear q12
                    try clear q122
                    try clear q124
                    try clear q128
                    obtain ⟨x19_3, x83_3, rfl, HA, HK3, HO_19, HO_81, HB⟩ := hrel
                    cases gk with
                    | zero => exact absurd HA.out (by simp [rope_Merge.l2])
                    | succ k3 =>
                      have H := HA.out
                      clear HA
                      simp only [rope_Merge.l2] at H
                      by_cases c35 : x83_3 < (t133.length : Int)
                      · rw [if_pos c35] at H
                        have c35b0 : decide (x83_3 < (t133.length : Int)) = true := decide_eq_true c35
                        clear c35
                        by_cases c36 : 0 ≤ x83_3
                        · rw [if_pos c36] at H
                          have c36b0 : decide (0 ≤ x83_3) = true := decide_eq_true c36
                          clear c36
                          by_cases c37 : x83_3 < (t133.length : Int)
                          · rw [if_pos c37] at H
                            have c37b0 : decide (x83_3 < (t133.length : Int)) = true := decide_eq_true c37
                            clear c37
                            replace H := Option.bind_eq_some_iff.mp H
                            obtain ⟨⟨t137, t138, t139⟩, A380, H⟩ := H
                            replace H : (if x19_3.length < 4398046511104 then (rope_Merge.l2 k3 l1 t115 (x19_3 ++ [(⟨t137, t138, t139⟩ : S47)]) t133 (t133.length : Int) (wrap64 (x83_3 + 1))) else (none)) = some (r1, r2) := H
                            have A38 := Aside0.mk A380
                            clear A380
                            by_cases c39 : x19_3.length < 4398046511104
                            · rw [if_pos c39] at H
                              have LMc39 := Aside0.mk c39
                              clear c39
                              obtain ⟨y140, hy140⟩ : ∃ y_ : List (S47), y_ = (x19_3 ++ [(⟨t137, t138, t139⟩ : S47)]) := ⟨_, rfl⟩
                              replace H : (rope_Merge.l2 k3 l1 t115 y140 t133 (t133.length : Int) (wrap64 (x83_3 + 1))) = some (r1, r2) := by first | (rw [hy140]; with_reducible exact H) | (have H2_ := (Option.bind_some _ _).symm.trans H; rw [hy140]; with_reducible exact H2_) | (have H2_ := (Option.bind_some _ _).symm.trans H; with_reducible exact H2_) | with_reducible exact H | (rw [hy140]; exact H) | exact H
                              have Ny140 := Aside0.mk hy140
                              clear hy140
                              have H' := Aside0.mk H
                              clear H
                              have p136 : 0 ≤ (x83_3 : Int) := of_decide_eq_true (by first | (with_reducible assumption) | assumption)
                              have q136 : x83_3 < (t133.length : Int) := of_decide_eq_true (by first | (with_reducible assumption) | assumption)
                              obtain ⟨ad136, A136_0, c136_0, e136, hx136_0, hl136_0, hi136_0⟩ := at_L6 (Kd.S_reads' HO_81.out).2.2 x83_3 p136 q136
                              cases e136
                              obtain ⟨ce136, hce136, hMe136, hcc136⟩ := Kd.S_get HO_81.out [] x83_3 p136 (by first | exact q136 | exact of_decide_eq_true (by first | (with_reducible assumption) | assumption) | (have e_ := (Kd.S_reads' HO_81.out).1; omega))
                              obtain ⟨ve136_0, rfl, ge136_0⟩ := hMe136
                              have hv136_0 := hcc136 0 _ rfl
                              rw [Nat.add_zero, show ((Kd.slice 93 k93)).sz = 1 from rfl, Nat.mul_one] at hv136_0
                              replace hv136_0 := Option.some.inj (hv136_0.symm.trans hx136_0)
                              rw [hv136_0] at ge136_0
                              have HL136_0 := Aside0.mk (show Kd.R k93 93 _ _ _ _ (rd_L6 t133 x83_3) from ge136_0)
                              clear hv136_0 ge136_0
                              clear hcc136 hce136
                              have HR136_0 := Aside0.mk hi136_0
                              have HC136_0 := Aside0.mk hl136_0
                              clear hi136_0 hl136_0
                              replace p136 := eq_true p136
                              replace q136 := eq_true q136
                              go_wp2_with (first | ((with_reducible refine gate_callee (f := 56) rfl ?_); refine goesL_ (some 91) rfl rfl Try.func56 (by kernel_rfl) rfl #[.string t115, .slice A1 l1.length c1, .slice A136_0 (rd_L6 t133 x83_3).length c136_0] rfl (by (try simp only [List.map_toArray, List.map_cons, List.map_nil]); first | done | rfl | (simp only [List.length_drop, List.length_take]; rfl)) ?_; (with_reducible refine (rope_joined.calls k3 t115 _ _ l1 _ _ (rd_L6 t133 x83_3) t137 t138 t139 _ ?side1 ?side2 ?side3 ?side4 A38.out).mono ?_); (case side1 => repeat (first | exact (Kd.C_below HR1.out HB.out) | (with_reducible refine Kd.C_alloc ?_ _) | (with_reducible refine Kd.C_drewN ?_ _) | (with_reducible refine Kd.C_drew ?_))); (case side2 => exact HC1.out); (case side3 => repeat (first | exact (by repeat (first | (with_reducible exact HR136_0.out) | (with_reducible refine Kd.C_alloc ?_ _) | (with_reducible refine Kd.C_drewN ?_ _) | (with_reducible refine Kd.C_drew ?_) | exact HR136_0.out)) | (with_reducible refine Kd.C_alloc ?_ _) | (with_reducible refine Kd.C_drewN ?_ _) | (with_reducible refine Kd.C_drew ?_))); (case side4 => exact HC136_0.out); rintro e w40 ⟨rfl, hb⟩; refine ⟨_, rfl, ?_⟩; have n0_ := Aside0.mk (Kd.R_below (by (with_reducible repeat (first | apply Kd.R_alloc | apply Kd.R_drewN | apply Kd.R_drew)); exact HO_19.out) hb); have n1_ := Aside0.mk (Kd.S_below (by (with_reducible repeat (first | apply Kd.S_alloc | apply Kd.S_drewN | apply Kd.S_drew)); exact HO_81.out) hb); have n2_ := Aside0.mk (Kd.R_below (by (with_reducible repeat (first | apply Kd.R_alloc | apply Kd.R_drewN | apply Kd.R_drew)); exact HL136_0.out) hb); have n3_ := Aside0.mk (Kd.C_below (by repeat (first | (with_reducible exact HR136_0.out) | (with_reducible refine Kd.C_alloc ?_ _) | (with_reducible refine Kd.C_drewN ?_ _) | (with_reducible refine Kd.C_drew ?_) | exact HR136_0.out)) hb); have n4_ := Aside0.mk (below_step (by repeat (first | (with_reducible first | exact HB.out | apply below_alloc | apply pw_below_drewN | apply below_drew1) | exact HB.out)) hb); clear HO_19; clear HO_81; clear HL136_0; clear HR136_0; clear HB; have HO_19 := n0_; have HO_81 := n1_; have HL136_0 := n2_; have HR136_0 := n3_; have HB := n4_; clear n0_ n1_ n2_ n3_ n4_; (try clear hb); (try clear hb2); (try clear hk); (try clear hi)) | ((with_reducible refine gate_builtin (b := .append) (xs := #[.tmp 87, .tmp 92]) rfl ?_); at_builtin; refine Kd.R_append k47 (w0 := w) w.heap.size rfl (.tmp 87) (.tmp 92) 22 47 (.agg #[(.int .i64 0), (.int .i64 0), (.string ⟨#[]⟩)]) 32 rfl Try.underlying22 info47 rfl (by decide) (by omega) u19 x19_3 (⟨t137, t138, t139⟩ : S47) [.int .i64 t137, .int .i64 t138, .string t139] (fun _ => True) (fun _ => False) rfl rfl ?aP (fun _ hk => hk.elim) ?aF ?aO ?aB ?aS ?aL ?_; (case aP => exact k47_mkM _ _ _ (⟨t137, t138, t139⟩ : S47)); (case aB => exact (by repeat (first | (with_reducible first | exact HB.out | apply below_alloc | apply pw_below_drewN | apply below_drew1) | exact HB.out))); (case aF => exact (fun _ _ => trivial)); (case aO => exact (by (with_reducible repeat (first | apply Kd.R_alloc | apply Kd.R_drewN | apply Kd.R_drew)); exact HO_19.out)); (case aS => exact (below_size (by repeat (first | (with_reducible first | exact HB.out | apply below_alloc | apply pw_below_drewN | apply below_drew1) | exact HB.out)))); (case aL => have := LMc39.out; omega); intro v141 w41 ho hb hg hat; rw [← Ny140.out] at ho; have n0_ := Aside0.mk (Kd.S_over' (by (with_reducible repeat (first | apply Kd.S_alloc | apply Kd.S_drewN | apply Kd.S_drew)); exact HO_81.out) (Kd.R_typed (by (with_reducible repeat (first | apply Kd.R_alloc | apply Kd.R_drewN | apply Kd.R_drew)); exact HO_19.out)) (by decide) hg); have n1_ := Aside0.mk (Kd.R_over' (by (with_reducible repeat (first | apply Kd.R_alloc | apply Kd.R_drewN | apply Kd.R_drew)); exact HL136_0.out) (Kd.R_typed (by (with_reducible repeat (first | apply Kd.R_alloc | apply Kd.R_drewN | apply Kd.R_drew)); exact HO_19.out)) (by decide) hg); have n2_ := Aside0.mk (hb); have n3_ := Aside0.mk (ho); clear HO_81; clear HL136_0; clear HB; clear HO_19; have HO_81 := n0_; have HL136_0 := n1_; have HB := n2_; have HO142 := n3_; clear n0_ n1_ n2_ n3_; clear ho hb hg hat))
                              go_roundg k3
                              case measure => have := HK1.out; have := HK2.out; have := HK3.out; omega
                              case rel => exact ⟨(y140), (wrap64 (x83_3 + 1)), (by first | rfl | (simp; done) | (simp [*]; done)), H', ⟨by have := HK1.out; have := HK2.out; have := HK3.out; omega⟩, ⟨by (with_reducible repeat (first | apply Kd.R_alloc | apply Kd.R_drewN | apply Kd.R_drew)); exact HO142.out⟩, ⟨by (with_reducible repeat (first | apply Kd.S_alloc | apply Kd.S_drewN | apply Kd.S_drew)); exact HO_81.out⟩, ⟨by repeat (first | (with_reducible first | exact HB.out | apply below_alloc | apply pw_below_drewN | apply below_drew1) | exact HB.out)⟩⟩
                            · rw [if_neg c39] at H
                              exact absurd H (by simp)
                          · rw [if_neg c37] at H
                            exact absurd H (by simp)
                        · rw [if_neg c36] at H
                          exact absurd H (by simp)
                      · rw [if_neg c35] at H
                        have c35b0 : decide (x83_3 < (t133.length : Int)) = false := decide_eq_false c35
                        clear c35
                        by_cases c42 : (x19_3.length : Int) > 100
                        · rw [if_pos c42] at H
                          have c42b0 : decide (100 < (x19_3.length : Int)) = true := decide_eq_true c42
                          have c42b1 : decide (100 < x19_3.length) = true := decide_eq_true (by omega)
                          clear c42
                          simp only [Option.some.injEq, Prod.mk.injEq] at H
                          obtain ⟨rfl, rfl⟩ := H
                          obtain ⟨Ao43, co43, eo43⟩ := Kd.R_slice HO_19.out
                          subst eo43
                          go_wp2
                          go_ret2
                          exact ⟨_, by first | rfl | (simp [errW_none, errW_some] <;> rfl) | (simp [*, errW_none, errW_some] <;> rfl), by first | exact Kd.R_nil _ _ _ _ _ | exact Kd.N_nil _ _ _ _ _ | exact Kd.V_nil _ _ _ _ _ | exact Kd.Q_nil _ _ _ _ _ | exact Kd.S_nil _ _ _ _ _, by repeat (first | (with_reducible first | exact HB.out | apply below_alloc | apply pw_below_drewN | apply below_drew1) | exact HB.out)⟩
                        · rw [if_neg c42] at H
                          have c42b0 : decide (100 < (x19_3.length : Int)) = false := decide_eq_false c42
                          have c42b1 : decide (100 < x19_3.length) = false := decide_eq_false (by omega)
                          clear c42
                          simp only [Option.some.injEq, Prod.mk.injEq] at H
                          obtain ⟨rfl, rfl⟩ := H
                          obtain ⟨Ao44, co44, eo44⟩ := Kd.R_slice HO_19.out
                          subst eo44
                          go_wp2
                          go_ret2
                          exact ⟨_, by first | rfl | (simp [errW_none, errW_some] <;> rfl) | (simp [*, errW_none, errW_some] <;> rfl), by (with_reducible repeat (first | apply Kd.R_alloc | apply Kd.R_drewN | apply Kd.R_drew)); exact HO_19.out, by repeat (first | (with_reducible first | exact HB.out | apply below_alloc | apply pw_below_drewN | apply below_drew1) | exact HB.out)⟩
    · rw [if_neg c7] at H
      have c7b0 : (t117 == 0) = false := beq_eq_false_iff_ne.mpr c7
      have c7b1 : (t117 != 0) = true := bne_iff_ne.mpr c7
      simp only [Option.some.injEq, Prod.mk.injEq] at H
      obtain ⟨rfl, rfl⟩ := H
      go_enter Try.func41, Try.ntmps41
      go_wp2_with (first | ((with_reducible refine gate_callee (f := 18) rfl ?_); refine goesL_ (some 25) rfl rfl Try.func18 (by kernel_rfl) rfl #[.string a0, .slice A1 l1.length c1] rfl (by (try simp only [List.map_toArray, List.map_cons, List.map_nil]); first | done | rfl | (simp only [List.length_drop, List.length_take]; rfl)) ?_; (with_reducible refine (rope_Apply.calls k a0 _ _ l1 t115 t116 _ ?side1 ?side2 A4.out).mono ?_); (case side1 => repeat (first | exact HR1.out | (with_reducible refine Kd.C_alloc ?_ _) | (with_reducible refine Kd.C_drewN ?_ _) | (with_reducible refine Kd.C_drew ?_))); (case side2 => exact HC1.out); rintro e w45 ⟨rfl, hb⟩; refine ⟨_, rfl, ?_⟩; have n0_ := Aside0.mk (below_step (by repeat (first | (with_reducible first | exact HB.out | apply below_alloc | apply pw_below_drewN | apply below_drew1) | exact HB.out)) hb); clear HB; have HB := n0_; clear n0_; (try clear hb); (try clear hb2); (try clear hk); (try clear hi)) | ((with_reducible refine gate_callee (f := 20) rfl ?_); refine goesL_ (some 33) rfl rfl Try.func20 (by kernel_rfl) rfl #[.string t115, .slice A2 l2.length c2] rfl (by (try simp only [List.map_toArray, List.map_cons, List.map_nil]); first | done | rfl | (simp only [List.length_drop, List.length_take]; rfl)) ?_; (with_reducible refine (rope_Check.calls k t115 _ _ l2 t117 _ ?side1 ?side2 A6.out).mono ?_); (case side1 => repeat (first | exact (Kd.C_below HR2.out HB.out) | (with_reducible refine Kd.C_alloc ?_ _) | (with_reducible refine Kd.C_drewN ?_ _) | (with_reducible refine Kd.C_drew ?_))); (case side2 => exact HC2.out); rintro e w46 ⟨rfl, hb⟩; refine ⟨_, rfl, ?_⟩; have n0_ := Aside0.mk (below_step (by repeat (first | (with_reducible first | exact HB.out | apply below_alloc | apply pw_below_drewN | apply below_drew1) | exact HB.out)) hb); clear HB; have HB := n0_; clear n0_; (try clear hb); (try clear hb2); (try clear hk); (try clear hi)))
      go_ret2
      exact ⟨_, by first | rfl | (simp [errW_none, errW_some] <;> rfl) | (simp [*, errW_none, errW_some] <;> rfl), by first | exact Kd.R_nil _ _ _ _ _ | exact Kd.N_nil _ _ _ _ _ | exact Kd.V_nil _ _ _ _ _ | exact Kd.Q_nil _ _ _ _ _ | exact Kd.S_nil _ _ _ _ _, by repeat (first | (with_reducible first | exact HB.out | apply below_alloc | apply pw_below_drewN | apply below_drew1) | exact HB.out)⟩
  · rw [if_neg c5] at H
    have c5b0 : (t116 == 0) = false := beq_eq_false_iff_ne.mpr c5
    have c5b1 : (t116 != 0) = true := bne_iff_ne.mpr c5
    simp only [Option.some.injEq, Prod.mk.injEq] at H
    obtain ⟨rfl, rfl⟩ := H
    go_enter Try.func41, Try.ntmps41
    go_wp2_with (first | ((with_reducible refine gate_callee (f := 18) rfl ?_); refine goesL_ (some 25) rfl rfl Try.func18 (by kernel_rfl) rfl #[.string a0, .slice A1 l1.length c1] rfl (by (try simp only [List.map_toArray, List.map_cons, List.map_nil]); first | done | rfl | (simp only [List.length_drop, List.length_take]; rfl)) ?_; (with_reducible refine (rope_Apply.calls k a0 _ _ l1 t115 t116 _ ?side1 ?side2 A4.out).mono ?_); (case side1 => repeat (first | exact HR1.out | (with_reducible refine Kd.C_alloc ?_ _) | (with_reducible refine Kd.C_drewN ?_ _) | (with_reducible refine Kd.C_drew ?_))); (case side2 => exact HC1.out); rintro e w47 ⟨rfl, hb⟩; refine ⟨_, rfl, ?_⟩; have n0_ := Aside0.mk (below_step (by repeat (first | (with_reducible first | exact HB.out | apply below_alloc | apply pw_below_drewN | apply below_drew1) | exact HB.out)) hb); clear HB; have HB := n0_; clear n0_; (try clear hb); (try clear hb2); (try clear hk); (try clear hi)))
    go_ret2
    exact ⟨_, by first | rfl | (simp [errW_none, errW_some] <;> rfl) | (simp [*, errW_none, errW_some] <;> rfl), by first | exact Kd.R_nil _ _ _ _ _ | exact Kd.N_nil _ _ _ _ _ | exact Kd.V_nil _ _ _ _ _ | exact Kd.Q_nil _ _ _ _ _ | exact Kd.S_nil _ _ _ _ _, by repeat (first | (with_reducible first | exact HB.out | apply below_alloc | apply pw_below_drewN | apply below_drew1) | exact HB.out)⟩

end Go.Proofs.Ytfllpoonfhiipaa.P

set_option linter.unusedVariables false
namespace Go.Proofs.Ytfllpoonfhiipaa.MgP
open Go.RowKit Go.Proofs.YtfllpoonfhiipaaW.PrintWords Go.Proofs.YtfllpoonfhiipaaW.PrintLast Go.Proofs.YtfllpoonfhiipaaW.PrintMore
open Go.Proofs.Ytfllpoonfhiipaa.SortW Go.Proofs.Ytfllpoonfhiipaa.MgS Go.Proofs.Ytfllpoonfhiipaa.P
/-- Where an offset was, by the edits that end before it. -/
theorem old_loop (l : List Ed) (hl : l.length ≤ 102) (off : Int) (ho : 0 ≤ off) (ho2 : off ≤ 2000000) (m : Int) (hm : m ≤ 20000) : ∀ (d r : List Ed) (i : Nat) (p b : Int), l.drop i = d ++ r → sp m p (d ++ r) = true → 0 ≤ p → p ≤ m → -p ≤ b → b + newSum (d ++ r) ≤ 2000000 →
    (∀ q ∈ onesP b d, q.f1 ≤ off) → (∀ e ∈ r.head?, off < e.f0 + (b + gsum d) + e.f2.size) → Ev (fun k => rope_old.l0 k off b l (l.length : Int) (i : Int)) (off - (b + gsum d)) := by
  intro d
  induction d with
  | nil =>
    intro r i p b hd hs h0 h1 hb hn hq hr
    simp only [gsum, List.map_nil, List.sum_nil, Int.add_zero] at hr ⊢
    rw [List.nil_append] at hd hs hn
    cases r with
    | nil =>
      have := le_of_nil hd
      refine Ev.shift ?_
      simp only [rope_old.l0]
      refine Ev.neg (by omega) ?_
      rw [w64 (by omega) (by simp [newSum] at hn; omega)]
      exact Ev.now _
    | cons e r =>
      have hlt := lt_of_drop hd
      obtain ⟨h2, h3, h4, h5⟩ := sp_cons hs
      rw [newSum_cons] at hn
      have := hr e rfl
      refine Ev.shift ?_
      simp only [rope_old.l0]
      rw [rd_at hd, w64 (n := e.f0 + b) (by omega) (by omega), w64 (n := e.f0 + b + (e.f2.size : Int)) (by omega) (by omega)]
      refine Ev.pos (by omega) (Ev.pos (by omega) (Ev.pos (by omega) (Ev.pos (by omega) ?_)))
      rw [w64 (by omega) (by omega)]
      exact Ev.now _
  | cons e d ih =>
    intro r i p b hd hs h0 h1 hb hn hq hr
    have hlt := lt_of_drop hd
    obtain ⟨h2, h3, h4, h5⟩ := sp_cons hs
    rw [List.cons_append, newSum_cons] at hn
    have h6 := hq _ List.mem_cons_self
    simp only at h6
    refine Ev.shift ?_
    simp only [rope_old.l0]
    rw [rd_at hd, w64 (n := e.f0 + b) (by omega) (by omega), w64 (n := e.f0 + b + (e.f2.size : Int)) (by omega) (by omega), w64 (n := e.f1 - e.f0) (by omega) (by omega), w64 (n := (e.f2.size : Int) - (e.f1 - e.f0)) (by omega) (by omega), w64 (n := b + ((e.f2.size : Int) - (e.f1 - e.f0))) (by omega) (by omega), w64 (n := (i : Int) + 1) (by omega) (by omega)]
    refine Ev.pos (by omega) (Ev.pos (by omega) (Ev.pos (by omega) (Ev.neg (by omega) ?_)))
    have := ih r (i + 1) e.f1 (b + grow e) (drop_next hd) h5 (by omega) h4 (by unfold grow; omega) (by unfold grow; omega) (fun q hq' => hq q (List.mem_cons_of_mem _ hq')) (fun x hx => by
      have := hr x hx
      rw [gsum_cons] at this
      omega)
    rw [gsum_cons, ← Int.add_assoc]
    exact this
theorem old_ev (d r : List Ed) (hl : (d ++ r).length ≤ 102) (off : Int) (ho : 0 ≤ off) (ho2 : off ≤ 2000000) (m : Int) (h0 : 0 ≤ m) (hm : m ≤ 20000) (hs : sp m 0 (d ++ r) = true) (hn : newSum (d ++ r) ≤ 1000000) (hq : ∀ q ∈ onesP 0 d, q.f1 ≤ off) (hr : ∀ e ∈ r.head?, off < e.f0 + gsum d + e.f2.size) :
    Ev (fun k => rope_old.f k (d ++ r) off) (off - gsum d) := by
  have := old_loop (d ++ r) hl off ho ho2 m hm d r 0 0 0 rfl hs (by omega) h0 (by omega) (by omega) hq (fun e he => by have := hr e he; omega)
  rw [Int.zero_add] at this
  exact this
/-- Over the ones: begin and end. -/
theorem go_ones (mid : ByteArray) (F E : Int) (rest : List Pt) : ∀ (os : List Pt) (a b e : Int) (acc : List UInt8), (∀ p ∈ os, p.f2 = true) → rope_joined.go mid F E (os ++ rest) a b e acc = rope_joined.go mid F E rest a (os.foldl (fun b p => rope_joined.bg F p b) b) (os.foldl (fun e p => rope_joined.en E p e) e) acc
  | [], _, _, _, _, _ => rfl
  | p :: os, a, b, e, acc, h => by
    simp only [List.cons_append, rope_joined.go, List.foldl_cons]
    rw [if_pos (h p List.mem_cons_self)]
    exact go_ones mid F E rest os _ _ _ _ (fun q hq => h q (List.mem_cons_of_mem _ hq))
theorem bg_none (F : Int) : ∀ (os : List Pt) (b : Int), (∀ q ∈ os, q.f0 ≠ F) → os.foldl (fun b p => rope_joined.bg F p b) b = b
  | [], _, _ => rfl
  | p :: os, b, h => by
    simp only [List.foldl_cons]
    rw [show rope_joined.bg F p b = b from if_neg (fun q => h p List.mem_cons_self q.2.1)]
    exact bg_none F os b (fun q hq => h q (List.mem_cons_of_mem _ hq))
theorem bg_keep (F : Int) : ∀ (os : List Pt) (b : Int), 0 ≤ b → (∀ q ∈ os, b ≤ q.f3.f0) → os.foldl (fun b p => rope_joined.bg F p b) b = b
  | [], _, _, _ => rfl
  | p :: os, b, h0, h => by
    have := h p List.mem_cons_self
    simp only [List.foldl_cons]
    rw [show rope_joined.bg F p b = b from if_neg (fun q => by omega)]
    exact bg_keep F os b h0 (fun q hq => h q (List.mem_cons_of_mem _ hq))
theorem ones_true : ∀ (l : List Ed) (b : Int), ∀ p ∈ onesP b l, p.f2 = true
  | [], _, p, hp => by cases hp
  | e :: r, b, p, hp => by
    rcases List.mem_cons.mp hp with rfl | hp
    · rfl
    · exact ones_true r _ p hp
theorem ones_ed : ∀ (l : List Ed) (b : Int), ∀ p ∈ onesP b l, p.f3 ∈ l
  | [], _, p, hp => by cases hp
  | e :: r, b, p, hp => by
    rcases List.mem_cons.mp hp with rfl | hp
    · exact List.mem_cons_self
    · exact List.mem_cons_of_mem _ (ones_ed r _ p hp)
theorem bg_ones {m : Int} (F : Int) {l : List Ed} {p b : Int} (hs : sp m p l = true) (h0 : 0 ≤ p) (hF : ∀ q ∈ onesP b l, F ≤ q.f0) (hpm : p ≤ m) :
    ((onesP b l).foldl (fun b p => rope_joined.bg F p b) (-1) = -1 ∧ ∀ q ∈ onesP b l, F < q.f0) ∨ (onesP b l).foldl (fun b p => rope_joined.bg F p b) (-1) = F - b ∧ 0 ≤ F - b := by
  cases l with
  | nil => exact .inl ⟨rfl, fun q hq => by cases hq⟩
  | cons e r =>
    obtain ⟨h1, h2, h3, h4⟩ := sp_cons hs
    have hsrt := List.pairwise_cons.mp (onesP_sort (b := b) hs)
    have hf := hF _ List.mem_cons_self
    simp only at hf
    by_cases c : e.f0 + b = F
    · right
      refine ⟨?_, by omega⟩
      simp only [onesP, List.foldl_cons]
      rw [show rope_joined.bg F ⟨e.f0 + b, e.f0 + b + e.f2.size, true, e⟩ (-1) = e.f0 from if_pos ⟨rfl, c, .inl (by decide)⟩]
      rw [bg_keep F _ e.f0 (by omega) (fun q hq => by have := sp_mem h4 _ (ones_ed _ _ q hq); omega)]
      omega
    · left
      have hall : ∀ q ∈ onesP b (e :: r), F < q.f0 := fun q hq => by
        rcases List.mem_cons.mp hq with rfl | hq
        · simp only; omega
        · have := hsrt.1 q hq
          simp only at this
          omega
      exact ⟨bg_none F _ _ (fun q hq => by have := hall q hq; omega), hall⟩
theorem en_ones {m : Int} (E : Int) : ∀ {l : List Ed} {p b e : Int}, sp m p l = true → p ≤ m → e ≤ p → 0 ≤ p → (∀ q ∈ onesP b l, q.f1 ≤ E) →
    ((onesP b l).foldl (fun e p => rope_joined.en E p e) e = e ∧ ∀ q ∈ onesP b l, q.f1 < E) ∨ (onesP b l).foldl (fun e p => rope_joined.en E p e) e = E - (b + gsum l) ∧ 0 ≤ E - (b + gsum l)
  | [], _, _, _, _, _, _, _, _ => .inl ⟨rfl, fun q hq => by cases hq⟩
  | x :: r, p, b, e, hs, hpm, he, h0, hE => by
    obtain ⟨h1, h2, h3, h4⟩ := sp_cons hs
    have hsrt := List.pairwise_cons.mp (onesP_sort (b := b) hs)
    have hr := onesP_bd (b := b + grow x) h4 h3
    have hh := hE _ List.mem_cons_self
    simp only at hh
    rw [gsum_cons]
    simp only [onesP, List.foldl_cons]
    by_cases c : x.f0 + b + x.f2.size = E
    · rw [show rope_joined.en E ⟨x.f0 + b, x.f0 + b + x.f2.size, true, x⟩ e = x.f1 from by
        rw [show rope_joined.en E ⟨x.f0 + b, x.f0 + b + x.f2.size, true, x⟩ e = mx e x.f1 from if_pos ⟨rfl, c⟩]
        unfold mx
        split <;> omega]
      rcases en_ones E (e := x.f1) h4 h3 (Int.le_refl _) (by omega) (fun q hq => hE q (List.mem_cons_of_mem _ hq)) with ⟨k1, k2⟩ | ⟨k1, k2⟩
      · right
        rw [k1]
        cases r with
        | nil => simp only [gsum, List.map_nil, List.sum_nil]; unfold grow; omega
        | cons y r =>
          have q1 := k2 _ List.mem_cons_self
          have q2 := hsrt.1 _ List.mem_cons_self
          have q3 := hr _ List.mem_cons_self
          simp only at q1 q2 q3
          omega
      · right
        rw [k1]
        omega
    · rw [show rope_joined.en E ⟨x.f0 + b, x.f0 + b + x.f2.size, true, x⟩ e = e from if_neg (fun q => c q.2)]
      rcases en_ones E (e := e) h4 h3 (by omega) (by omega) (fun q hq => hE q (List.mem_cons_of_mem _ hq)) with ⟨k1, k2⟩ | ⟨k1, k2⟩
      · left
        refine ⟨k1, fun q hq => ?_⟩
        rcases List.mem_cons.mp hq with rfl | hq
        · simp only; omega
        · exact k2 q hq
      · right
        rw [k1]
        omega
/-- Over the twos: the text. -/
theorem go_twos (mid : ByteArray) (hmid : mid.size ≤ 20000) (F E b e : Int) (hE : E ≤ mid.size) : ∀ (so : List Ed) (a : Int) (acc : List UInt8), sp mid.size a so = true → 0 ≤ a → a ≤ E → (∀ x ∈ so, x.f1 ≤ E) → (acc.length : Int) + (E - a) + newSum so ≤ 1000000000 →
    ∃ (a' : Int) (acc' : List UInt8), rope_joined.go mid F E (so.map twoP) a b e acc = some (a', b, e, acc') ∧ a ≤ a' ∧ a' ≤ E ∧ acc' ++ cutS mid a' E = acc ++ nw mid a E so ∧ (acc'.length : Int) + (E - a') ≤ 1000000000
  | [], a, acc, _, h0, h1, _, hb => ⟨a, acc, rfl, Int.le_refl _, h1, rfl, by simp [newSum] at hb; omega⟩
  | x :: so, a, acc, hs, h0, h1, hx, hb => by
    obtain ⟨k1, k2, k3, k4⟩ := sp_cons hs
    have hxe := hx x List.mem_cons_self
    rw [newSum_cons] at hb
    have hlen := cut_len mid h0 k1 (by omega : x.f0 ≤ (mid.size : Int))
    have hsz : ((mid.extract a.toNat x.f0.toNat).size : Int) = x.f0 - a := by
      rw [← hlen]
      unfold cutS
      rw [Ut.size_data]
    obtain ⟨a', acc', g1, g2, g3, g4, g5⟩ := go_twos mid hmid F E b e hE so x.f1 (acc ++ cutS mid a x.f0 ++ x.f2.data.toList) k4 (by omega) hxe (fun y hy => hx y (List.mem_cons_of_mem _ hy)) (by rw [List.length_append, List.length_append, Ut.size_data]; omega)
    refine ⟨a', acc', ?_, by omega, g3, ?_, g5⟩
    · simp only [List.map_cons, rope_joined.go, twoP]
      rw [if_neg (by decide), if_pos h0, if_pos k1, if_pos (by omega), if_pos (by omega)]
      exact g1
    · rw [g4]
      simp only [nw, List.append_assoc]
theorem sp_left {m : Int} : ∀ {l k : List Ed} {p : Int}, sp m p (l ++ k) = true → sp m p l = true
  | [], _, _, _ => rfl
  | e :: l, k, p, h => by
    obtain ⟨h1, h2, h3, h4⟩ := sp_cons h
    simp [sp, h1, h2, h3, sp_left h4]
/-- One group. -/
theorem joined_ev (M : ByteArray) (hM : M.size ≤ 20000) (ld lo lr so : List Ed) (m : Int) (hm0 : 0 ≤ m) (hm : m ≤ 20000) (hl : (ld ++ (lo ++ lr)).length ≤ 102) (hs : sp m 0 (ld ++ (lo ++ lr)) = true) (hn : newSum (ld ++ (lo ++ lr)) ≤ 1000000) (a : Int) (ha : 0 ≤ a) (hso : sp M.size a so = true) (hns : newSum so ≤ 1000000) (hsl : so.length ≤ 102)
    (hne : parts (gsum ld) (lo, so) ≠ []) (hbd : ∀ q ∈ parts (gsum ld) (lo, so), 0 ≤ q.f0 ∧ q.f0 ≤ q.f1 ∧ q.f1 ≤ M.size)
    (hd : ∀ p ∈ onesP 0 ld, ∀ q ∈ so, p.f1 < q.f0) (hr : ∀ q ∈ so, ∀ p ∈ onesP (gsum ld + gsum lo) lr, q.f1 < p.f0) :
    Ev (fun k => rope_joined.f k M (ld ++ (lo ++ lr)) (parts (gsum ld) (lo, so))) ((reach (parts (gsum ld) (lo, so))).1 - gsum ld, (reach (parts (gsum ld) (lo, so))).2 - (gsum ld + gsum lo), ba (nw M (reach (parts (gsum ld) (lo, so))).1 (reach (parts (gsum ld) (lo, so))).2 so)) := by
  obtain ⟨r1, ⟨pf, mf, ef⟩, pt_, mt, et⟩ := reach_spec hne
  have hpl : (parts (gsum ld) (lo, so)).length ≤ 1000000 := by
    simp only [parts, List.length_append, List.length_map, onesP_len] at hl ⊢
    omega
  have hre := reach_ev (parts (gsum ld) (lo, so)) hpl (List.length_pos_iff.mpr hne)
  have hx1 := hbd pf mf
  have hx2 := hbd pt_ mt
  have hx3 := r1 pf mf
  have hsrt := onesP_sort (b := 0) hs
  rw [onesP_app, onesP_app, Int.zero_add] at hsrt
  have hsl1 := (endT_sp hs hm0)
  have hsl2 := (endT_sp hsl1.1 hsl1.2.2)
  have hone := onesP_bd (b := 0) hs hm0
  rw [onesP_app, onesP_app, Int.zero_add] at hone
  have hso1 : ∀ e ∈ so, (reach (parts (gsum ld) (lo, so))).1 ≤ e.f0 ∧ e.f1 ≤ (reach (parts (gsum ld) (lo, so))).2 := fun e he => r1 (twoP e) (List.mem_append_right _ (List.mem_map.mpr ⟨e, he, rfl⟩))
  have hos1 : ∀ q ∈ onesP (gsum ld) lo, (reach (parts (gsum ld) (lo, so))).1 ≤ q.f0 ∧ q.f1 ≤ (reach (parts (gsum ld) (lo, so))).2 := fun q hq => r1 q (List.mem_append_left _ hq)
  unfold rope_joined.f
  refine Ev.bind hre ?_
  generalize hF : (reach (parts (gsum ld) (lo, so))).1 = F at *
  generalize hE : (reach (parts (gsum ld) (lo, so))).2 = E at *
  -- the edits before
  have hbefore : ∀ p ∈ onesP 0 ld, p.f1 ≤ F := fun p hp => by
    rw [ef]
    rcases List.mem_append.mp mf with c | c
    · exact (List.pairwise_append.mp hsrt).2.2 p hp pf (List.mem_append_left _ c)
    · obtain ⟨e, he, rfl⟩ := List.mem_map.mp c
      exact Int.le_of_lt (hd p hp e he)
  have hgo : rope_joined.go M F E (parts (gsum ld) (lo, so)) F (-1) (-1) [] = rope_joined.go M F E (so.map twoP) F ((onesP (gsum ld) lo).foldl (fun b p => rope_joined.bg F p b) (-1)) ((onesP (gsum ld) lo).foldl (fun e p => rope_joined.en E p e) (-1)) [] := go_ones M F E _ _ _ _ _ _ (ones_true _ _)
  have hspF : sp M.size F so = true := sp_from hso (fun e he => (hso1 e (head_mem he)).1)
  obtain ⟨a', acc', g1, g2, g3, g4, g5⟩ := go_twos M hM F E ((onesP (gsum ld) lo).foldl (fun b p => rope_joined.bg F p b) (-1)) ((onesP (gsum ld) lo).foldl (fun e p => rope_joined.en E p e) (-1)) (by omega) so F [] hspF (by omega) (by omega) (fun e he => (hso1 e he).2) (by simp only [List.length_nil]; omega)
  have hb := bg_ones F (b := gsum ld) (sp_left hsl1.1) (by omega) (fun q hq => (hos1 q hq).1) hsl1.2.2
  have he := en_ones E (b := gsum ld) (e := -1) (sp_left hsl1.1) hsl1.2.2 (by omega) (by omega) (fun q hq => (hos1 q hq).2)
  rw [hgo]
  generalize (onesP (gsum ld) lo).foldl (fun b p => rope_joined.bg F p b) (-1) = bb at *
  generalize (onesP (gsum ld) lo).foldl (fun e p => rope_joined.en E p e) (-1) = ee at *
  refine Ev.bind1 g1 ?_
  simp only [rope_joined.fin]
  have hcl := cut_len M (by omega : 0 ≤ a') g3 (by omega)
  have hcs : ((M.extract a'.toNat E.toNat).size : Int) = E - a' := by
    rw [← hcl]
    unfold cutS
    rw [Ut.size_data]
  refine Ev.pos (by omega) (Ev.pos g3 (Ev.pos (by omega) (Ev.pos (by omega) ?_)))
  refine Ev.bind (a := F - gsum ld) ?_ (Ev.bind (a := E - (gsum ld + gsum lo)) ?_ ?_)
  · rcases hb with ⟨h1, h2⟩ | ⟨h1, h2⟩
    · rw [h1]
      refine Ev.pos (by decide) (old_ev ld (lo ++ lr) hl F (by omega) (by omega) m hm0 hm hs hn hbefore fun e he => ?_)
      cases lo with
      | nil =>
        cases lr with
        | nil => cases he
        | cons x y =>
          cases he
          rcases List.mem_append.mp mf with c | c
          · cases c
          · obtain ⟨q, hq, rfl⟩ := List.mem_map.mp c
            have k1 := hr q hq _ List.mem_cons_self
            simp only [gsum, List.map_nil, List.sum_nil] at k1
            simp only [twoP] at ef hx1
            unfold gsum at *
            omega
      | cons x y =>
        cases he
        have := h2 _ List.mem_cons_self
        simp only at this
        omega
    · rw [h1]
      exact Ev.neg (by omega) (Ev.now _)
  · rcases he with ⟨h1, h2⟩ | ⟨h1, h2⟩
    · rw [h1]
      have := old_ev (ld ++ lo) lr (by rw [List.append_assoc]; exact hl) E (by omega) (by omega) m hm0 hm (by rw [List.append_assoc]; exact hs) (by rw [List.append_assoc]; exact hn) (fun q hq => by
        rw [onesP_app, Int.zero_add] at hq
        rcases List.mem_append.mp hq with c | c
        · have := hbefore q c
          omega
        · exact (hos1 q c).2) (fun e he => by
        cases lr with
        | nil => cases he
        | cons x y =>
          cases he
          rcases List.mem_append.mp mt with c | c
          · have := h2 pt_ c
            omega
          · obtain ⟨q, hq, rfl⟩ := List.mem_map.mp c
            have k1 := hr q hq _ List.mem_cons_self
            simp only [twoP] at k1 et
            rw [gsum_app]
            omega)
      rw [List.append_assoc, gsum_app] at this
      exact Ev.pos (by decide) this
    · rw [h1]
      exact Ev.neg (by omega) (Ev.now _)
  · have h9 : acc' ++ (M.extract a'.toNat E.toNat).data.toList = nw M F E so := by rw [List.nil_append] at g4; exact g4
    rw [h9]
    exact Ev.now _
end Go.Proofs.Ytfllpoonfhiipaa.MgP

set_option linter.unusedVariables false
namespace Go.Proofs.Ytfllpoonfhiipaa.MgP
open Go.RowKit Go.Proofs.YtfllpoonfhiipaaW.PrintWords Go.Proofs.YtfllpoonfhiipaaW.PrintLast Go.Proofs.YtfllpoonfhiipaaW.PrintMore
open Go.Proofs.Ytfllpoonfhiipaa.SortW Go.Proofs.Ytfllpoonfhiipaa.MgS Go.Proofs.Ytfllpoonfhiipaa.MgL Go.Proofs.Ytfllpoonfhiipaa.P
def partsL : Int → List Gr → List (List Pt)
  | _, [] => []
  | b, g :: r => parts b g :: partsL (b + gsum g.1) r
/-- Ones that are told in two parts. -/
theorem onesP_split : ∀ (os rest : List Pt) (b : Int) (l : List Ed), onesP b l = os ++ rest → ∃ lo lr, l = lo ++ lr ∧ os = onesP b lo ∧ rest = onesP (b + gsum lo) lr
  | [], rest, b, l, h => ⟨[], l, rfl, rfl, by rw [List.nil_append] at h; simp [gsum, h]⟩
  | p :: os, rest, b, [], h => by cases h
  | p :: os, rest, b, e :: l, h => by
    simp only [onesP, List.cons_append, List.cons.injEq] at h
    obtain ⟨h1, h2⟩ := h
    obtain ⟨lo, lr, e1, e2, e3⟩ := onesP_split os rest _ l h2
    refine ⟨e :: lo, lr, by rw [e1]; rfl, ?_, ?_⟩
    · simp only [onesP]
      rw [h1, e2]
    · rw [gsum_cons, ← Int.add_assoc]
      exact e3
theorem twos_split : ∀ (ts rest : List Pt) (l : List Ed), l.map twoP = ts ++ rest → ∃ so sr, l = so ++ sr ∧ ts = so.map twoP ∧ rest = sr.map twoP
  | [], rest, l, h => ⟨[], l, rfl, rfl, by rw [List.nil_append] at h; exact h.symm⟩
  | p :: os, rest, [], h => by cases h
  | p :: os, rest, e :: l, h => by
    simp only [List.map_cons, List.cons_append, List.cons.injEq] at h
    obtain ⟨h1, h2⟩ := h
    obtain ⟨so, sr, e1, e2, e3⟩ := twos_split os rest l h2
    exact ⟨e :: so, sr, by rw [e1]; rfl, by rw [List.map_cons, h1, e2], e3⟩
theorem groups_ed : ∀ (Gs : List (List Pt × List Pt)) (b : Int) (l1 l2 : List Ed), (Gs.map Prod.fst).flatten = onesP b l1 → (Gs.map Prod.snd).flatten = l2.map twoP → Gs.Pairwise Sep → (∀ p ∈ Gs, p.1 ++ p.2 ≠ []) →
    ∃ Gr_ : List Gr, Gs.map (fun p => p.1 ++ p.2) = partsL b Gr_ ∧ fsts Gr_ = l1 ∧ snds Gr_ = l2 ∧ SepE b Gr_
  | [], b, l1, l2, h1, h2, _, _ => by
    refine ⟨[], rfl, ?_, ?_, trivial⟩
    · cases l1 with
      | nil => rfl
      | cons e r => cases h1
    · cases l2 with
      | nil => rfl
      | cons e r => cases h2
  | G :: Gs, b, l1, l2, h1, h2, hp, hn => by
    simp only [List.map_cons, List.flatten_cons] at h1 h2
    obtain ⟨lo, lr, e1, e2, e3⟩ := onesP_split _ _ _ _ h1.symm
    obtain ⟨so, sr, f1, f2, f3⟩ := twos_split _ _ _ h2.symm
    have hh := List.pairwise_cons.mp hp
    obtain ⟨Gr_, k1, k2, k3, k4⟩ := groups_ed Gs (b + gsum lo) lr sr e3 f3 hh.2 (fun p hp => hn p (List.mem_cons_of_mem _ hp))
    have hpt : G.1 ++ G.2 = parts b (lo, so) := by rw [e2, f2]; rfl
    refine ⟨(lo, so) :: Gr_, ?_, ?_, ?_, ?_, ?_, ?_, k4⟩
    · simp only [List.map_cons, partsL]
      rw [k1, hpt]
    · rw [e1, ← k2]; rfl
    · rw [f1, ← k3]; rfl
    · rw [← hpt]
      exact hn G List.mem_cons_self
    · intro p hp1 q hq1
      rw [k3] at hq1
      have hq2 : twoP q ∈ (Gs.map Prod.snd).flatten := by rw [f3]; exact List.mem_map.mpr ⟨q, hq1, rfl⟩
      obtain ⟨L, hL, hqL⟩ := List.mem_flatten.mp hq2
      obtain ⟨H, hH, rfl⟩ := List.mem_map.mp hL
      exact (hh.1 H hH).1 p (by rw [e2]; exact hp1) (twoP q) hqL
    · intro q hq1 p hp1
      simp only at hp1
      rw [k2, ← e3] at hp1
      obtain ⟨L, hL, hpL⟩ := List.mem_flatten.mp hp1
      obtain ⟨H, hH, rfl⟩ := List.mem_map.mp hL
      exact (hh.1 H hH).2 (twoP q) (by rw [f2]; exact List.mem_map.mpr ⟨q, hq1, rfl⟩) p hpL
theorem partsL_len : ∀ (Gs : List Gr) (b : Int), (partsL b Gs).length = Gs.length
  | [], _ => rfl
  | g :: r, b => by simp [partsL, partsL_len r]
theorem mrgE_len (M : ByteArray) : ∀ (Gs : List Gr) (b : Int), (mrgE M b Gs).length = Gs.length
  | [], _ => rfl
  | g :: r, b => by simp [mrgE, mrgE_len M r]
theorem gr_len : ∀ (Gs : List Gr) (b : Int), SepE b Gs → Gs.length ≤ (fsts Gs).length + (snds Gs).length
  | [], _, _ => Nat.zero_le _
  | g :: r, b, h => by
    obtain ⟨s1, _, _, s4⟩ := h
    have := gr_len r _ s4
    have h0 : 0 < (parts b g).length := List.length_pos_iff.mpr s1
    simp only [parts, List.length_append, onesP_len, List.length_map] at h0
    have e1 : (fsts (g :: r)).length = g.1.length + (fsts r).length := by rw [show fsts (g :: r) = g.1 ++ fsts r from rfl, List.length_append]
    have e2 : (snds (g :: r)).length = g.2.length + (snds r).length := by rw [show snds (g :: r) = g.2 ++ snds r from rfl, List.length_append]
    rw [List.length_cons]
    omega
/-! ### the loops -/
theorem ml0 (T : ByteArray) (M : ByteArray) (l1 l2 : List Ed) (hl : l1.length ≤ 102) (R : List Ed × Int) : ∀ (r : List Ed) (i : Nat) (b : Int) (acc : List Pt), l1.drop i = r → (inv T 0 l1).drop i = inv T b r → acc.length ≤ i →
    Ev (fun k => rope_Merge.l1 k l1 M (acc ++ onesP b r) [] l2 (l2.length : Int) 0) R → Ev (fun k => rope_Merge.l0 k l1 l2 M acc (inv T 0 l1) ((inv T 0 l1).length : Int) (i : Int)) R := by
  have hil := inv_length T l1 0
  intro r
  induction r with
  | nil =>
    intro i b acc hd hd2 ha h
    have := le_of_nil hd
    refine Ev.shift ?_
    simp only [rope_Merge.l0]
    refine Ev.neg (by omega) ?_
    simpa [onesP] using h
  | cons e r ih =>
    intro i b acc hd hd2 ha h
    have hlt := lt_of_drop hd
    simp only [inv] at hd2
    refine Ev.shift ?_
    simp only [rope_Merge.l0]
    rw [rd_at hd, rd_at hd2, w64 (n := (i : Int) + 1) (by omega) (by omega)]
    refine Ev.pos (by omega) (Ev.pos (by omega) (Ev.pos (by omega) (Ev.pos (by omega) (Ev.pos (by omega) ?_))))
    refine ih (i + 1) (b + grow e) _ (drop_next hd) (drop_next hd2) (by simp; omega) ?_
    rw [List.append_assoc, List.singleton_append]
    exact h
theorem ml1 (M : ByteArray) (l1 l2 : List Ed) (hl : l2.length ≤ 102) (ones : List Pt) (R : List Ed × Int) : ∀ (r : List Ed) (i : Nat) (acc : List Pt), l2.drop i = r → acc.length ≤ i →
    Ev (fun k => (rope_groups.f k ones (acc ++ r.map twoP)).bind fun t => rope_Merge.l2 k l1 M [] t (t.length : Int) 0) R → Ev (fun k => rope_Merge.l1 k l1 M ones acc l2 (l2.length : Int) (i : Int)) R := by
  intro r
  induction r with
  | nil =>
    intro i acc hd ha h
    have := le_of_nil hd
    refine Ev.shift ?_
    simp only [rope_Merge.l1]
    refine Ev.neg (by omega) ?_
    simpa using h
  | cons e r ih =>
    intro i acc hd ha h
    have hlt := lt_of_drop hd
    refine Ev.shift ?_
    simp only [rope_Merge.l1]
    rw [rd_at hd, w64 (n := (i : Int) + 1) (by omega) (by omega)]
    refine Ev.pos (by omega) (Ev.pos (by omega) (Ev.pos (by omega) (Ev.pos (by omega) ?_)))
    refine ih (i + 1) _ (drop_next hd) (by simp; omega) ?_
    rw [List.append_assoc, List.singleton_append]
    exact h
theorem rd_row {l : List (List Pt)} {i : Nat} {e : List Pt} {r : List (List Pt)} (h : l.drop i = e :: r) : rd_L6 l (i : Int) = e := by
  have h1 : l[i]? = some e := by
    have := congrArg (fun x => x[0]?) h
    simpa [List.getElem?_drop] using this
  simp [rd_L6, List.getD_eq_getElem?_getD, h1]
theorem onesP_mem_app {b : Int} {l k : List Ed} {p : Pt} (h : p ∈ onesP b (l ++ k)) : p ∈ onesP b l ∨ p ∈ onesP (b + gsum l) k := by
  rw [onesP_app] at h
  exact List.mem_append.mp h
/-- The last loop: a group an edit. -/
theorem ml2 (M : ByteArray) (hM : M.size ≤ 20000) (m : Int) (hm0 : 0 ≤ m) (hm : m ≤ 20000) (l1 l2 : List Ed) (hl1 : l1.length ≤ 102) (hl2 : l2.length ≤ 102) (hs1 : sp m 0 l1 = true) (hs2 : sp M.size 0 l2 = true) (hn1 : newSum l1 ≤ 1000000) (hn2 : newSum l2 ≤ 1000000) (hMm : (M.size : Int) = m + gsum l1) (rows : List (List Pt)) (hrl : rows.length ≤ 1000) :
    ∀ (Gs : List Gr) (i : Nat) (ld sd : List Ed) (acc : List Ed), rows.drop i = partsL (gsum ld) Gs → l1 = ld ++ fsts Gs → l2 = sd ++ snds Gs → SepE (gsum ld) Gs → (∀ p ∈ onesP 0 ld, ∀ q ∈ snds Gs, p.f1 < q.f0) → acc.length ≤ i →
    Ev (fun k => rope_Merge.l2 k l1 M acc rows (rows.length : Int) (i : Int)) (if (acc ++ mrgE M (gsum ld) Gs).length > 100 then ([], 7) else (acc ++ mrgE M (gsum ld) Gs, 0)) := by
  intro Gs
  induction Gs with
  | nil =>
    intro i ld sd acc hd _ _ _ _ ha
    have : rows.length ≤ i := le_of_nil hd
    refine Ev.shift ?_
    simp only [rope_Merge.l2, mrgE, List.append_nil]
    refine Ev.neg (by omega) ?_
    by_cases c : (acc.length : Int) > 100
    · rw [show (if acc.length > 100 then (([], 7) : List Ed × Int) else (acc, 0)) = ([], 7) from if_pos (by omega)]
      exact Ev.pos c (Ev.now _)
    · rw [show (if acc.length > 100 then (([], 7) : List Ed × Int) else (acc, 0)) = (acc, 0) from if_neg (by omega)]
      exact Ev.neg c (Ev.now _)
  | cons g Gs ih =>
    intro i ld sd acc hd e1 e2 hS hsep ha
    obtain ⟨lo, so⟩ := g
    obtain ⟨s1, s2, s3, s4⟩ := hS
    have hlt : i < rows.length := lt_of_drop hd
    have f1 : fsts ((lo, so) :: Gs) = lo ++ fsts Gs := rfl
    have f2 : snds ((lo, so) :: Gs) = so ++ snds Gs := rfl
    rw [f1] at e1
    rw [f2] at e2 hsep
    have hx := endT_sp (l := sd) (by rw [← e2]; exact hs2 : sp M.size 0 (sd ++ (so ++ snds Gs)) = true) (by omega)
    have hone := onesP_bd (b := 0) hs1 hm0
    have hj := joined_ev M hM ld lo (fsts Gs) so m hm0 hm (by rw [← e1]; exact hl1) (by rw [← e1]; exact hs1) (by rw [← e1]; exact hn1) (endT 0 sd) hx.2.1 (sp_left hx.1) (by
      have : newSum l2 = newSum sd + (newSum so + newSum (snds Gs)) := by rw [e2]; simp [newSum]
      omega) (by
      have : l2.length = sd.length + (so.length + (snds Gs).length) := by rw [e2]; simp
      omega) s1 (fun q hq => by
      rcases List.mem_append.mp hq with c | c
      · have hq2 : q ∈ onesP 0 l1 := by rw [e1, onesP_app, onesP_app, Int.zero_add]; exact List.mem_append_right _ (List.mem_append_left _ c)
        have := hone q hq2
        omega
      · obtain ⟨e, he, rfl⟩ := List.mem_map.mp c
        exact sp_mem hs2 e (by rw [e2]; exact List.mem_append_right _ (List.mem_append_left _ he))) (fun p hp q hq => hsep p hp q (List.mem_append_left _ hq)) s3
    simp only [partsL] at hd
    refine Ev.shift ?_
    simp only [rope_Merge.l2]
    rw [rd_row hd, w64 (n := (i : Int) + 1) (by omega) (by omega)]
    refine Ev.pos (by omega) (Ev.pos (by omega) (Ev.pos (by omega) ?_))
    rw [← e1] at hj
    refine Ev.bind hj (Ev.pos (by omega) ?_)
    have := ih (i + 1) (ld ++ lo) (sd ++ so) (acc ++ [⟨(reach (parts (gsum ld) (lo, so))).1 - gsum ld, (reach (parts (gsum ld) (lo, so))).2 - (gsum ld + gsum lo), ba (nw M (reach (parts (gsum ld) (lo, so))).1 (reach (parts (gsum ld) (lo, so))).2 so)⟩]) (by rw [gsum_app]; exact drop_next hd) (by rw [List.append_assoc]; exact e1) (by rw [List.append_assoc]; exact e2) (by rw [gsum_app]; exact s4) (fun p hp q hq => by
      rcases onesP_mem_app hp with c | c
      · exact hsep p c q (List.mem_append_right _ hq)
      · rw [Int.zero_add] at c
        exact s2 p c q hq) (by simp; omega)
    rw [gsum_app, List.append_assoc, List.singleton_append] at this
    exact this
theorem A_pt {all : List Pt} {k : Nat} (h : k < all.length) : pt all k = all[k] := by rw [pt, List.getD_eq_getElem?_getD, List.getElem?_eq_getElem h]; rfl
/-- Where the parts lie. -/
theorem pos_of (m M : Int) (l1 l2 : List Ed) (hm0 : 0 ≤ m) (hM0 : 0 ≤ M) (hs1 : sp m 0 l1 = true) (hs2 : sp M 0 l2 = true) (hMm : M = m + gsum l1) (hM : M ≤ 20000) :
    Bd (onesP 0 l1 ++ l2.map twoP) ∧ Pos (onesP 0 l1).length (onesP 0 l1 ++ l2.map twoP).length (A (onesP 0 l1 ++ l2.map twoP)) (B (onesP 0 l1 ++ l2.map twoP)) := by
  have hone := onesP_bd (b := 0) hs1 hm0
  have hb : Bd (onesP 0 l1 ++ l2.map twoP) := fun p hp => by
    rcases List.mem_append.mp hp with c | c
    · have := hone p c
      omega
    · obtain ⟨e, he, rfl⟩ := List.mem_map.mp c
      have := sp_mem hs2 e he
      simp only [twoP]
      omega
  have hsrt := List.pairwise_iff_getElem.mp (onesP_sort (b := 0) hs1)
  have hsrt2 := List.pairwise_iff_getElem.mp (sp_pair hs2)
  refine ⟨hb, by simp, fun k hk => ?_, fun i j hij hj => ?_, fun i j hi hij hj => ?_⟩
  · unfold A B
    rw [A_pt hk]
    exact (hb _ (List.getElem_mem hk)).2.1
  · have h1 : i < (onesP 0 l1 ++ l2.map twoP).length := by rw [List.length_append]; omega
    have h2 : j < (onesP 0 l1 ++ l2.map twoP).length := by rw [List.length_append]; omega
    unfold A B
    rw [A_pt h1, A_pt h2, List.getElem_append_left (by omega), List.getElem_append_left hj]
    exact hsrt i j (by omega) hj hij
  · have h1 : i < (onesP 0 l1 ++ l2.map twoP).length := by omega
    rw [List.length_append, List.length_map] at hj
    have h2 : j < (onesP 0 l1 ++ l2.map twoP).length := by rw [List.length_append, List.length_map]; omega
    unfold A B
    rw [A_pt h1, A_pt h2, List.getElem_append_right hi, List.getElem_append_right (by omega), List.getElem_map, List.getElem_map]
    exact hsrt2 _ _ (by omega) (by omega) (by omega)
theorem groups_f (ones twos : List Pt) (hs : (ones ++ twos).length ≤ 1000) (hb : Bd (ones ++ twos)) : ∃ g, Done ones.length (ones ++ twos).length (A (ones ++ twos)) (B (ones ++ twos)) g ∧ Ev (fun k => rope_groups.f k ones twos) (srtG (rowsG (ones ++ twos) g)) := by
  obtain ⟨g, hD, hE⟩ := MgE.groups_ev ones twos hs
  refine ⟨g, hD, ?_⟩
  have hE' : Ev (fun k => rope_groupsV.f k ones twos (ones ++ twos)) (rowsG (ones ++ twos) g) := hE
  have hs0 := hs
  unfold rope_groups.f
  rw [List.length_append] at hs0
  refine Ev.pos hs0 (Ev.bind hE' ?_)
  refine Ev.pos ⟨?_, fun x hx => ?_⟩ (Ev.now _)
  · have : (labs (ones ++ twos) g).length ≤ (List.range (ones ++ twos).length).length := List.length_filter_le _ _
    rw [List.length_range] at this
    rw [rowsG, List.length_map]
    omega
  · obtain ⟨l, hl, rfl⟩ := List.mem_map.mp hx
    have hne := cls_ne.mpr (mem_labs.mp hl).2
    refine ⟨List.length_pos_iff.mpr hne, ?_, fun p hp => ?_⟩
    · have : (ixs g (ones ++ twos).length l).length ≤ (List.range (ones ++ twos).length).length := List.length_filter_le _ _
      rw [List.length_range] at this
      rw [cls, List.length_map]
      omega
    · obtain ⟨k, k1, k2, k3⟩ := cls_mem.mp hp
      rw [← k3, A_pt k1]
      exact hb _ (List.getElem_mem k1)
/-- What Merge answers of right edits. -/
structure Merged (T : ByteArray) (l1 l2 : List Ed) (Gs : List Gr) : Prop where
  f : fsts Gs = l1
  s : snds Gs = l2
  sep : SepE 0 Gs
  len : Gs.length ≤ l1.length + l2.length
  rows : ∃ g, Done (onesP 0 l1).length (onesP 0 l1 ++ l2.map twoP).length (A (onesP 0 l1 ++ l2.map twoP)) (B (onesP 0 l1 ++ l2.map twoP)) g ∧ srtG (rowsG (onesP 0 l1 ++ l2.map twoP) g) = partsL 0 Gs
  sp_ : sp T.size 0 (mrgE (ba (app T 0 l1)) 0 Gs) = true
  app_ : app T 0 (mrgE (ba (app T 0 l1)) 0 Gs) = app (ba (app T 0 l1)) 0 l2
  ev : Ev (fun k => rope_Merge.f k T l1 l2) (if (mrgE (ba (app T 0 l1)) 0 Gs).length > 100 then ([], 7) else (mrgE (ba (app T 0 l1)) 0 Gs, 0))
theorem merge_ok (T : ByteArray) (l1 l2 : List Ed) (hf1 : Fit l1) (hf2 : Fit l2) (h1 : chk T.size l1 = 0) (h2 : chk (ba (app T 0 l1)).size l2 = 0) : ∃ Gs, Merged T l1 l2 Gs := by
  obtain ⟨a1, a2, a3, a4⟩ := chk_ok h1
  obtain ⟨b1, b2, b3, b4⟩ := chk_ok h2
  have hlen := app_length T l1 0 a3 (by omega) (by omega)
  have hMs : ((ba (app T 0 l1)).size : Int) = T.size + gsum l1 := by rw [ba_size, hlen, gsum_eq]; omega
  obtain ⟨hb, hP⟩ := pos_of T.size (ba (app T 0 l1)).size l1 l2 (by omega) (by omega) a3 b3 hMs (by omega)
  obtain ⟨g, hD, hG⟩ := groups_f (onesP 0 l1) (l2.map twoP) (by rw [List.length_append, onesP_len, List.length_map]; omega) hb
  obtain ⟨Gs, g1, g2, g3, g4, g5⟩ := mg_struct (onesP 0 l1) (l2.map twoP) g hb hP hD
  obtain ⟨Gr_, k1, k2, k3, k4⟩ := groups_ed Gs 0 l1 l2 g2 g3 g4 g5
  have hrow : srtG (rowsG (onesP 0 l1 ++ l2.map twoP) g) = partsL 0 Gr_ := by rw [g1, k1]
  have hgl := gr_len Gr_ 0 k4
  rw [k2, k3] at hgl
  have happ := mrg_app T (ba (app T 0 l1)) Gr_ 0 0 k4 (by rw [k2]; exact a3) (by rw [k3]; exact b3) (by omega) (by omega) (by omega) (by rw [k2, Int.add_zero]; exact hMs) (by rw [k2, ba_list]; simp)
  rw [k3, Int.add_zero] at happ
  refine ⟨Gr_, k2, k3, k4, hgl, ⟨g, hD, hrow⟩, happ.1, happ.2, ?_⟩
  have hs1 := apply_ev T l1 (by omega) hf1
  have hs2 := check_ev (ba (app T 0 l1)) l2 (by omega) hf2
  have hs3 := invert_ev T l1 (by omega) hf1
  rw [if_pos h1] at hs1 hs3
  unfold rope_Merge.f
  refine Ev.bind hs1 (Ev.pos h1 (Ev.bind hs2 (Ev.pos h2 (Ev.bind hs3 ?_))))
  refine ml0 T (ba (app T 0 l1)) l1 l2 (by omega) _ l1 0 0 [] rfl rfl (Nat.le_refl _) ?_
  rw [List.nil_append]
  refine ml1 (ba (app T 0 l1)) l1 l2 (by omega) _ _ l2 0 [] rfl (Nat.le_refl _) ?_
  rw [List.nil_append]
  refine Ev.bind hG ?_
  have hrl : (srtG (rowsG (onesP 0 l1 ++ l2.map twoP) g)).length ≤ 1000 := by rw [hrow, partsL_len]; omega
  have := ml2 (ba (app T 0 l1)) (by omega) T.size (by omega) (by omega) l1 l2 (by omega) (by omega) a3 b3 hf1.2 hf2.2 hMs (srtG (rowsG (onesP 0 l1 ++ l2.map twoP) g)) hrl Gr_ 0 [] [] [] (by rw [List.drop_zero]; exact hrow) (by rw [k2]; rfl) (by rw [k3]; rfl) k4 (fun p hp => by cases hp) (Nat.le_refl _)
  rw [List.nil_append] at this
  exact this
theorem merge_bad1 (T : ByteArray) (l1 l2 : List Ed) (hT : T.size ≤ 9223372036854775807) (hf1 : Fit l1) (h1 : chk T.size l1 ≠ 0) : Ev (fun k => rope_Merge.f k T l1 l2) ([], chk T.size l1) := by
  have hs1 := apply_ev T l1 hT hf1
  unfold rope_Merge.f
  exact Ev.bind hs1 (Ev.neg h1 (Ev.now _))
theorem merge_bad2 (T : ByteArray) (l1 l2 : List Ed) (hf1 : Fit l1) (hf2 : Fit l2) (h1 : chk T.size l1 = 0) (h2 : chk (ba (app T 0 l1)).size l2 ≠ 0) : Ev (fun k => rope_Merge.f k T l1 l2) ([], chk (ba (app T 0 l1)).size l2) := by
  obtain ⟨a1, a2, a3, a4⟩ := chk_ok h1
  have hlen := app_length T l1 0 a3 (by omega) (by omega)
  have hs1 := apply_ev T l1 (by omega) hf1
  have hs2 := check_ev (ba (app T 0 l1)) l2 (by rw [ba_size]; omega) hf2
  rw [if_pos h1] at hs1
  unfold rope_Merge.f
  exact Ev.bind hs1 (Ev.pos h1 (Ev.bind hs2 (Ev.neg h2 (Ev.now _))))
end Go.Proofs.Ytfllpoonfhiipaa.MgP

set_option linter.unusedVariables false
namespace Go.Proofs.Ytfllpoonfhiipaa.Rope
open Go.RowKit Go.Proofs.Ytfllpoonfhiipaa.Bld Go.Proofs.YtfllpoonfhiipaaW.PrintWords
/-- A pointer that is nil, or to a rope that was not made. -/
def Void (w : World) (v : Value) : Prop := v = .pointer none ∨ ∃ g, v = .pointer (some ⟨g, 0, none⟩) ∧ w.cell? ⟨g, 3, none⟩ = some (.bool false)
theorem Void.below {w w' : World} {v : Value} (h : Void w v) (hb : Below w.heap.size w w') : Void w' v := by
  rcases h with h | ⟨g, h, hc⟩
  · exact .inl h
  · exact .inr ⟨g, h, (hb.cell (World.block_lt_of_cell? w _ hc)).trans hc⟩
theorem Void.form {w : World} {v : Value} (h : Void w v) : ∃ a, v = .pointer a := by
  rcases h with rfl | ⟨g, rfl, _⟩
  · exact ⟨_, rfl⟩
  · exact ⟨_, rfl⟩
end Go.Proofs.Ytfllpoonfhiipaa.Rope

set_option linter.unusedVariables false
namespace Go.Proofs.Ytfllpoonfhiipaa.Rope
open Go.RowKit Go.Proofs.Ytfllpoonfhiipaa Go.Proofs.Ytfllpoonfhiipaa.P Go.Proofs.Ytfllpoonfhiipaa.Bld Go.Proofs.YtfllpoonfhiipaaW.PrintWords Go.Proofs.YtfllpoonfhiipaaW.PrintLast Go.Proofs.YtfllpoonfhiipaaW.PrintMore
attribute [local go_sem] max2_int min2_int max_two min_two max_three min_three max_four min_four
theorem infoString : (Try.prog.info? 9).map (fun i => (i.zero, i.size, i.bytes)) = some (some (.string ⟨#[]⟩), 1, 16) := by kernel_rfl
theorem tot_cons (s : ByteArray) (r : List ByteArray) : tot (s :: r) = s.size + tot r := by simp [tot]
/-- The pieces of a span. -/
def cutP (a b : Int) : Int → List ByteArray → List ByteArray
  | _, [] => []
  | p, s :: r => if (if a - p < 0 then 0 else a - p) < (if (s.size : Int) < b - p then (s.size : Int) else b - p) then s.extract (if a - p < 0 then 0 else a - p).toNat (if (s.size : Int) < b - p then (s.size : Int) else b - p).toNat :: cutP a b (p + s.size) r else cutP a b (p + s.size) r
theorem cutP_length (a b : Int) : ∀ (r : List ByteArray) (p : Int), (cutP a b p r).length ≤ r.length
  | [], _ => by simp [cutP]
  | s :: r, p => by
    have := cutP_length a b r (p + s.size)
    simp only [cutP]
    generalize (if a - p < 0 then 0 else a - p) = x
    generalize (if (s.size : Int) < b - p then (s.size : Int) else b - p) = y
    split <;> simp <;> omega
def SR (w : World) (B : Nat) (v : Value) (xs : List ByteArray) : Prop := w.ownsRow B 9 1 v xs.length (xs.map Value.string)
set_option maxHeartbeats 4000000 in
set_option maxRecDepth 100000 in
theorem cut_ok (v : Value) (r : Rp) (a b : Int) (w : World) (h : IsRp w v r) (hs : tot r.ps ≤ 1000000) (ha : 0 ≤ a) (ha2 : a ≤ 1000000) (hb : 0 ≤ b) (hb2 : b ≤ 1000000) (hn : r.ps.length ≤ 1000000) :
    Calls Try.prog 50 #[v, .int .i64 a, .int .i64 b] w fun e w' => ∃ u, e = .returned u ∧ SR w' w.heap.size u (cutP a b 0 r.ps) ∧ Below w.heap.size w w' := by
  obtain ⟨g, u, rfl, hl⟩ := h.open
  obtain ⟨A, c, h0, h1, h2, h3, hc, hr⟩ := hl.cells
  obtain ⟨i0, hi, hz0, hz1, hz2⟩ := info_parts infoString
  have HR := Aside0.mk hr
  clear hr h hl h1 h2 h3
  go_enter Try.func50, Try.ntmps50
  go_wp2_with fail
  go_loopg [7, 8, 18] r.ps.length (fun kq v7 v8 v18 w' => ∃ (i : Nat) (p : Int) (acc : List ByteArray), v8 = .int .i64 p ∧ v18 = .int .i64 i ∧ Aside0 (i + kq = r.ps.length) ∧ Aside0 (acc ++ cutP a b p (r.ps.drop i) = cutP a b 0 r.ps) ∧ Aside0 (acc.length ≤ i) ∧ Aside0 (0 ≤ p ∧ p + tot (r.ps.drop i) ≤ 1000000) ∧ Aside0 (SR w' w.heap.size v7 acc) ∧ Aside0 (Below w.heap.size w w'))
  case atStart => exact ⟨0, 0, [], rfl, rfl, ⟨by omega⟩, ⟨by simp⟩, ⟨by simp⟩, ⟨by simp; omega⟩, ⟨⟨by simp, .inl ⟨rfl, rfl⟩⟩⟩, ⟨Below.refl _ _⟩⟩
  case round =>
    obtain ⟨i, p, acc, rfl, rfl, HK, HC, HL, HP, HO, HB⟩ := hrel
    by_cases hlt : i < r.ps.length
    · obtain ⟨bk, o, rfl, hx⟩ := HR.out.2 (by omega)
      have hx1 := hx i _ (List.getElem?_eq_getElem hlt)
      replace hx1 := (HB.out.cell (World.block_lt_of_cell? w _ hx1)).trans hx1
      have hC := HC.out
      have hP := HP.out
      rw [List.drop_eq_getElem_cons hlt] at hC hP
      rw [tot_cons] at hP
      clear hx
      generalize r.ps[i] = s at *
      simp only [cutP] at hC
      obtain ⟨p0, p1⟩ := hP
      obtain ⟨x, hxa⟩ : ∃ x : Int, (if a - p < 0 then 0 else a - p) = x := ⟨_, rfl⟩
      obtain ⟨y, hyb⟩ : ∃ y : Int, (if (s.size : Int) < b - p then (s.size : Int) else b - p) = y := ⟨_, rfl⟩
      rw [hxa, hyb] at hC
      have hx0 : 0 ≤ x := by rw [← hxa]; split <;> omega
      have hys : y ≤ s.size := by rw [← hyb]; split <;> omega
      have HO' := HO.out
      unfold SR at HO'
      have HH := Aside0.mk HO'
      clear HO' HO
      have hmx := HR.out.1
      by_cases hxy : x < y
      · rw [if_pos hxy] at hC
        have hxy' : x ≤ y := by omega
        have HC2 := Aside0.mk hC
        clear hC HC
        go_wp2_with (at_builtin; refine wpList_append_own _ rfl _ _ 63 rfl w.heap.size 9 i0 (.string ⟨#[]⟩) 1 16 Try.underlying63 hi hz0 hz1 hz2 rfl (by decide) _ _ _ rfl (HH.out.alloc _) ⟨wr.heap.size, 0, none⟩ 1 1 [.string (s.extract x.toNat y.toNat)] rfl rfl ?c1 ?c2 ?c3 ?c4 ?c5 ?_)
        case c1 =>
          intro j u hj
          match j, hj with
          | 0, hj =>
            simp only [List.getElem?_cons_zero, Option.some.injEq] at hj
            subst hj
            rw [show (⟨wr.heap.size, 0, none⟩ : Addr).add 0 = ⟨wr.heap.size, 0, none⟩ from rfl, Lib.cell_of_heap (alloc_at _ _)]
            rfl
        case c2 => intro u hu; simp only [List.mem_singleton] at hu; subst hu; rfl
        case c3 => unfold maxLen; have := HL.out; omega
        case c4 => have := HL.out; omega
        case c5 => have := HB.out.size; simp; omega
        intro v' w2 hown' hgrow _
        have HN := Aside0.mk (((HB.out.alloc HB.out.size _).grown hgrow (by have := HB.out.size; simp; omega) (fun k hk => (HH.out.lt k hk).1)))
        have HO2 := Aside0.mk hown'
        clear hown' hgrow
        cases gk with
        | zero => exact absurd hlt (by have := HK.out; omega)
        | succ kq' =>
        go_wp2_with fail
        go_roundg kq'
        case measure => omega
        case rel => exact ⟨i + 1, p + s.size, acc ++ [s.extract x.toNat y.toNat], rfl, by go_num, ⟨by have := HK.out; omega⟩, ⟨by rw [← HC2.out]; simp⟩, ⟨by have := HL.out; simp; omega⟩, ⟨by omega⟩, ⟨by unfold SR; simpa using HO2.out⟩, HN⟩
      · rw [if_neg hxy] at hC
        have HC2 := Aside0.mk hC
        clear hC HC
        have HO2 := HH
        cases gk with
        | zero => exact absurd hlt (by have := HK.out; omega)
        | succ kq' =>
        go_wp2_with fail
        go_roundg kq'
        case measure => omega
        case rel => exact ⟨i + 1, p + s.size, acc, rfl, by go_num, ⟨by have := HK.out; omega⟩, HC2, ⟨by have := HL.out; omega⟩, ⟨by omega⟩, HO2, HB⟩
    · have hC := HC.out
      rw [List.drop_of_length_le (by omega)] at hC
      simp only [cutP, List.append_nil] at hC
      have HO' := HO.out
      rw [hC] at HO'
      have HO2 := Aside0.mk HO'
      clear HO' hC HO HC
      go_wp2_with fail
      go_ret
      exact ⟨_, rfl, HO2.out, HB.out⟩
theorem check_n (n : Nat) (l : List Ed) (hn : n ≤ 20000) (hf : Fit l) : Ev (fun k => rope_check.f k (n : Int) l) (chk n l) := by
  have hl : l.length ≤ 9223372036854775807 := by have := hf.1; omega
  have hns : newSum l ≤ 1000000 := hf.2
  unfold rope_check.f chk
  rw [if_neg (by omega)]
  refine Ev.bind (spans_ev l n hl) ?_
  by_cases h2 : (l.length : Int) > 100
  · simp only [if_pos h2]
    exact Ev.neg (by decide) (Ev.now _)
  simp only [if_neg h2]
  by_cases h3 : sp n 0 l = true
  · simp only [if_pos h3]
    have h4 := span_le h3 (by omega)
    exact Ev.pos (by simp) (check_l0 l n (by omega) hl hns l 0 n 0 rfl h3 (by omega) (by omega) (by omega) (by omega))
  · simp only [if_neg h3]
    exact Ev.neg (by decide) (Ev.now _)
set_option maxHeartbeats 4000000 in
set_option maxRecDepth 100000 in
theorem Edit_err (v : Value) (r : Rp) (A1 : Option Addr) (c1 : Nat) (l : List Ed) (w : World) (h : IsRp w v r) (hs : tot r.ps ≤ 20000) (hf : Fit l) (hr1 : Kd.C k47 w A1 l.length l) (hc1 : l.length ≤ c1) (he : ¬ chk (tot r.ps) l = 0) :
    Calls Try.prog 32 #[v, .slice A1 l.length c1] w fun e w' => e = .returned (.tuple #[.pointer none, .int .i64 (chk (tot r.ps) l)]) ∧ Below w.heap.size w w' := by
  obtain ⟨g, u, rfl, hl⟩ := h.open
  obtain ⟨A, c, h0, h1, h2, h3, hc, hr⟩ := hl.cells
  obtain ⟨K, hK⟩ := check_n (tot r.ps) l hs hf
  have hk := hK K (Nat.le_refl _)
  have hne : (chk (tot r.ps) l != 0) = true := bne_iff_ne.mpr he
  clear hr h hl h0 h2 hK he
  generalize chk (tot r.ps) l = z at *
  go_enter Try.func32, Try.ntmps32
  go_wp2_with (go_at_call 49; refine (none_made g _ h3).mono ?_; rintro e w1 ⟨rfl, rfl⟩)
  refine (rope_check.calls K _ _ _ l z _ hr1 hc1 hk).mono ?_
  rintro e w2 ⟨rfl, hb⟩
  go_wp2_with fail
  go_ret2
  exact ⟨rfl, hb⟩
end Go.Proofs.Ytfllpoonfhiipaa.Rope

set_option linter.unusedVariables false
set_option linter.unusedSimpArgs false
namespace Go.Proofs.Ytfllpoonfhiipaa.Rope
open Go.RowKit Go.Proofs.Ytfllpoonfhiipaa Go.Proofs.YtfllpoonfhiipaaW.PrintWords Go.Proofs.YtfllpoonfhiipaaW.PrintLast Go.Proofs.YtfllpoonfhiipaaW.PrintMore
def RSF (P : Nat → Prop) (W : World) (A : Option Addr) (ps : List ByteArray) : Prop :=
  ps.length ≤ 140737488355328 ∧ (0 < ps.length → ∃ bk o, A = some ⟨bk, o, none⟩ ∧ P bk ∧ ∀ (j : Nat) x, ps[j]? = some x → W.cell? ⟨bk, o + j, none⟩ = some (.string x))
def LieF (P : Nat → Prop) (W : World) (g : Nat) (ps : List ByteArray) (u : Value) : Prop :=
  P g ∧ ∃ A c, W.heap[g]? = some (.cells #[.slice A ps.length c, .int .i64 (tot ps : Nat), u, .bool true] 66 (0, 0)) ∧ ps.length ≤ c ∧ RSF P W A ps
/-- A rope that lies in blocks P. -/
def IsRpF (P : Nat → Prop) (W : World) : Value → Rp → Prop
  | v, .base ps => ∃ g, v = .pointer (some ⟨g, 0, none⟩) ∧ LieF P W g ps (.pointer none)
  | v, .step ps o => ∃ g u, v = .pointer (some ⟨g, 0, none⟩) ∧ LieF P W g ps u ∧ IsRpF P W u o
section
variable {P P' : Nat → Prop} {W W' : World} {A : Option Addr} {ps : List ByteArray} {g : Nat} {u : Value}
theorem RSF.rs (h : RSF P W A ps) : RS W A ps := ⟨h.1, fun hp => by
  obtain ⟨bk, o, e, _, hc⟩ := h.2 hp
  exact ⟨bk, o, e, hc⟩⟩
theorem RS.f (h : RS W A ps) (hp : ∀ bk o, A = some ⟨bk, o, none⟩ → P bk) : RSF P W A ps := ⟨h.1, fun h0 => by
  obtain ⟨bk, o, e, hc⟩ := h.2 h0
  exact ⟨bk, o, e, hp bk o e, hc⟩⟩
theorem LieF.lies (h : LieF P W g ps u) : Lies W g ps u := by
  obtain ⟨_, A, c, h1, h2, h3⟩ := h
  exact ⟨A, c, h1, h2, h3.rs⟩
theorem IsRpF.is : ∀ {v : Value} {r : Rp}, IsRpF P W v r → IsRp W v r
  | v, .base ps, h => by
    obtain ⟨g, e, h⟩ := h
    exact ⟨g, e, h.lies⟩
  | v, .step ps o, h => by
    obtain ⟨g, u, e, h, h'⟩ := h
    exact ⟨g, u, e, h.lies, h'.is⟩
theorem RSF.move (h : RSF P W A ps) (hm : ∀ k, P k → k < W.heap.size → W'.heap[k]? = W.heap[k]? ∧ P' k) : RSF P' W' A ps := ⟨h.1, fun h0 => by
  obtain ⟨bk, o, e, hp, hc⟩ := h.2 h0
  have hlt : bk < W.heap.size := World.block_lt_of_cell? W ⟨bk, o + 0, none⟩ (hc 0 _ (List.getElem?_eq_getElem h0))
  exact ⟨bk, o, e, (hm bk hp hlt).2, fun j x hx => (World.cell?_of_block (hm bk hp hlt).1).trans (hc j x hx)⟩⟩
theorem LieF.move (h : LieF P W g ps u) (hm : ∀ k, P k → k < W.heap.size → W'.heap[k]? = W.heap[k]? ∧ P' k) : LieF P' W' g ps u := by
  obtain ⟨hp, A, c, h1, h2, h3⟩ := h
  have hlt := blk_lt h1
  exact ⟨(hm g hp hlt).2, A, c, (hm g hp hlt).1.trans h1, h2, h3.move hm⟩
theorem IsRpF.move (hm : ∀ k, P k → k < W.heap.size → W'.heap[k]? = W.heap[k]? ∧ P' k) : ∀ {v : Value} {r : Rp}, IsRpF P W v r → IsRpF P' W' v r
  | v, .base ps, h => by
    obtain ⟨g, e, h⟩ := h
    exact ⟨g, e, h.move hm⟩
  | v, .step ps o, h => by
    obtain ⟨g, u, e, h, h'⟩ := h
    exact ⟨g, u, e, h.move hm, h'.move hm⟩
theorem IsRpF.below {v : Value} {r : Rp} (h : IsRpF P W v r) (hb : Below W.heap.size W W') : IsRpF P W' v r := h.move (fun k hp hk => ⟨hb.block k hk, hp⟩)
/-- Another row has been written: it lies in no block P. -/
theorem IsRpF.grown {v : Value} {r : Rp} (h : IsRpF P W v r) {row : Option Nat} (hg : W.grownBy W' row) (hp : ∀ k, P k → some k ≠ row) : IsRpF P W' v r := h.move (fun k hk hlt => ⟨hg.block k hlt (hp k hk), hk⟩)
theorem IsRpF.to {v : Value} {r : Rp} (h : IsRpF P W v r) (hp : ∀ k, P k → k < W.heap.size → P' k) : IsRpF P' W v r := h.move (fun k hk hlt => ⟨rfl, hp k hk hlt⟩)
end
set_option maxHeartbeats 1000000 in
set_option maxRecDepth 100000 in
theorem New_okF (s : ByteArray) (w : World) (h : s.size ≤ 20000) :
    Calls Try.prog 31 #[.string s] w fun e w' => ∃ v, e = .returned (.tuple #[v, .int .i64 0]) ∧ IsRpF (fun k => w.heap.size ≤ k) w' v (.base (one s)) ∧ Below w.heap.size w w' := by
  have hB : Below w.heap.size w (w.alloc (.cells #[.slice none 0 0, .int .i64 (s.size : Int), .pointer none, .bool true] 66)) := (Below.refl _ _).alloc (Nat.le_refl _) _
  by_cases hs : s.size = 0
  · have h0 := Ut.empty_of hs
    have HS := Aside0.mk hs
    have h2 : ¬ (20000 < (s.size : Int)) := by omega
    clear hs
    go_enter Try.func31, Try.ntmps31
    go_wp2
    go_ret2
    refine ⟨_, rfl, ⟨w.heap.size, rfl, Nat.le_refl _, none, 0, ?_, ?_, ?_⟩, hB⟩
    · rw [alloc_at]; simp [one, HS.out, tot]
    · simp [one, HS.out]
    · exact ⟨by simp [one, HS.out], by simp [one, HS.out]⟩
  · have h0 := Ut.nonempty_of hs
    have HS := Aside0.mk hs
    clear hs
    go_enter Try.func31, Try.ntmps31
    go_wp2
    go_ret2
    have e1 : one s = [s] := by simp [one, HS.out]
    rw [e1]
    refine ⟨_, rfl, ⟨w.heap.size, rfl, Nat.le_refl _, some ⟨w.heap.size + 1, 0, none⟩, 1, ?_, ?_, ?_⟩, ?_⟩
    · rw [alloc_two, alloc_at]; simp [tot]
    · simp
    · refine ⟨by simp, fun _ => ⟨_, 0, rfl, Nat.le_succ _, fun j x hx => ?_⟩⟩
      match j, hx with
      | 0, hx =>
        simp only [List.getElem?_cons_zero, Option.some.injEq] at hx
        subst hx
        rw [Lib.cell_of_heap (alloc_at' _ _ _ (by simp [World.size_alloc]))]
        rfl
    · exact ((Below.refl _ _).alloc (Nat.le_refl _) _).alloc (by simp) _
end Go.Proofs.Ytfllpoonfhiipaa.Rope

set_option linter.unusedVariables false
namespace Go.Proofs.Ytfllpoonfhiipaa.Rope
open Go.RowKit Go.Proofs.Ytfllpoonfhiipaa Go.Proofs.Ytfllpoonfhiipaa.P Go.Proofs.Ytfllpoonfhiipaa.Bld Go.Proofs.YtfllpoonfhiipaaW.PrintWords Go.Proofs.YtfllpoonfhiipaaW.PrintLast Go.Proofs.YtfllpoonfhiipaaW.PrintMore
attribute [local go_sem] max2_int min2_int max_two min_two max_three min_three max_four min_four
theorem RS.far {w : World} {A : Option Addr} {xs : List ByteArray} {b : Nat} (h : RS w A xs) (hd : ∀ bk o, A = some ⟨bk, o, none⟩ → bk ≠ b) (i : Nat) (u : Value) : RS (w.setCell ⟨b, i, none⟩ u) A xs := by
  refine ⟨h.1, fun hp => ?_⟩
  obtain ⟨bk, o, e, hc⟩ := h.2 hp
  exact ⟨bk, o, e, fun j x hx => (World.cell?_of_block (Below.heap_setCell w ⟨b, i, none⟩ u bk (hd bk o e))).trans (hc j x hx)⟩
theorem tot_take (xs : List ByteArray) (j : Nat) (h : j < xs.length) : tot (xs.take (j + 1)) = tot (xs.take j) + xs[j].size := by
  rw [List.take_succ_eq_append_getElem h]
  simp only [tot, List.map_append, List.sum_append, List.map_cons, List.map_nil, List.sum_cons, List.sum_nil, Nat.add_zero]
theorem tot_take_le (xs : List ByteArray) (j : Nat) : tot (xs.take j) ≤ tot xs := by
  conv => rhs; rw [← List.take_append_drop j xs]
  simp only [tot, List.map_append, List.sum_append]
  omega
/-- The pieces behind edits. -/
def editP (ps : List ByteArray) (n : Int) : Int → List Ed → List ByteArray
  | p, [] => cutP p n 0 ps
  | p, e :: r => cutP p e.f0 0 ps ++ (if e.f2.size = 0 then [] else [e.f2]) ++ editP ps n e.f1 r
/-- A row of strings, not in block b. -/
def SK (w : World) (B b : Nat) (v : Value) (xs : List ByteArray) : Prop := Kd.R Kd.string 9 w B (fun k => k ≠ b) v xs
theorem SR.kd {w : World} {B : Nat} {v : Value} {xs : List ByteArray} (h : SR w B v xs) : Kd.R Kd.string 9 w B (fun _ => True) v xs := Kd.R_of_own h (fun _ _ => trivial)
theorem RS.of_SK {w : World} {B b : Nat} {v : Value} {xs : List ByteArray} (hk : SK w B b v xs) (hl : xs.length ≤ 140737488355328) : ∃ A c, v = .slice A xs.length c ∧ xs.length ≤ c ∧ RS w A xs ∧ ∀ bk o, A = some ⟨bk, o, none⟩ → bk ≠ b := by
  have h := Kd.own_of_R hk
  obtain ⟨A, c, hv, h2, _⟩ := Kd.R_reads hk
  by_cases hn : 0 < xs.length
  · obtain ⟨g, cap, hv', h1, _⟩ := World.ownsRow.form h hn
    have hg : v.ownBlock = some g := by
      rw [hv']; rfl
    subst hv'
    injection hv with e1 _ e2
    subst e1 e2
    refine ⟨_, _, rfl, h2, ⟨hl, fun _ => ⟨g, 0, rfl, fun j x hx => ?_⟩⟩, fun bk o e => ?_⟩
    · rw [World.ownsRow.cellAt h (0 + j) (by have := List.getElem?_eq_some_iff.1 hx; obtain ⟨q, _⟩ := this; omega)]
      simp [encs, hx]
    · injection e with e
      injection e with e
      subst e
      exact hk.1 _ hg
  · exact ⟨A, c, hv, h2, ⟨hl, fun h => absurd h hn⟩, fun bk o e => by
      subst e
      have h0 : v.ownBlock = some bk ∨ v.ownBlock = none := by rw [hv]; cases o <;> simp [Value.ownBlock]
      rcases h0 with h0 | h0
      · exact hk.1 _ h0
      · have := h.2; rcases this with ⟨e, _⟩ | ⟨g, cap, cur, e, _⟩
        · rw [e] at hv; cases hv
        · rw [e] at hv; injection hv with e1; injection e1 with e1; injection e1 with e1 e2; subst e1; exact hk.1 _ (by rw [e]; rfl)⟩
theorem SK.base {w : World} {B b n c : Nat} {A : Option Addr} {xs : List ByteArray} (hk : SK w B b (.slice A n c) xs) : ∀ bk o, A = some ⟨bk, o, none⟩ → B ≤ bk := by
  have h := Kd.own_of_R hk
  intro bk o e
  subst e
  rcases h.2 with ⟨e, _⟩ | ⟨g, cap, cur, e, hg, _⟩
  · cases e
  · injection e with e1
    injection e1 with e1
    injection e1 with e1
    subst e1
    exact hg
set_option maxHeartbeats 8000000 in
set_option maxRecDepth 100000 in
theorem Edit_okF (v : Value) (r : Rp) (A1 : Option Addr) (c1 : Nat) (l : List Ed) (w : World) (h : IsRp w v r) (hs : tot r.ps ≤ 20000) (hn : r.ps.length ≤ 1000000) (hf : Fit l) (hr1 : Kd.C k47 w A1 l.length l) (hc1 : l.length ≤ c1) (he : chk (tot r.ps) l = 0) (ht : tot (editP r.ps (tot r.ps) 0 l) ≤ 1000000) :
    Calls Try.prog 32 #[v, .slice A1 l.length c1] w fun e w' => ∃ u, e = .returned (.tuple #[.pointer (some ⟨u, 0, none⟩), .int .i64 0]) ∧ LieF (fun k => w.heap.size ≤ k) w' u (editP r.ps (tot r.ps) 0 l) v ∧ Below w.heap.size w w' := by
  have HI := Aside0.mk h
  obtain ⟨g, u, rfl, hl⟩ := h.open
  obtain ⟨A, c, h0, h1, h2, h3, hc, hr⟩ := hl.cells
  obtain ⟨K, hK⟩ := check_n (tot r.ps) l hs hf
  have hk := hK K (Nat.le_refl _)
  have hu := Try.underlying47
  obtain ⟨q1, q2, q3, q4⟩ := chk_ok he
  have HQ := Aside0.mk (And.intro q2 q3)
  have HT := Aside0.mk ht
  clear ht
  have hl100 := Aside0.mk q2
  rw [he] at hk
  clear hr hl h0 h2 hK he q1 q2 q3 q4 h
  go_enter Try.func32, Try.ntmps32
  go_wp2_with (go_at_call 49; refine (none_made g _ h3).mono ?_; rintro e wx ⟨rfl, rfl⟩)
  refine (rope_check.calls K _ _ _ l 0 _ hr1 hc1 hk).mono ?_
  rintro e w2 ⟨rfl, hb⟩
  have HB2 := Aside0.mk hb
  have HR := Aside0.mk hr1
  clear hb hr1 hk
  go_wp2_with fail
  have hbz : Below w2.heap.size w2 (w2.alloc (.cells #[.slice none 0 0, .int .i64 0, .pointer (some ⟨g, 0, none⟩), .bool true] 66)) := (Below.refl _ _).alloc (Nat.le_refl _) _
  have HB3 := Aside0.mk (Kx.below_step HB2.out hbz)
  clear hbz
  go_loopg [8, 29] l.length (fun kq v8 v29 w' => ∃ (i : Nat) (p : Int) (acc : List ByteArray) (vp : Value), v8 = .int .i64 p ∧ v29 = .int .i64 i ∧ Aside0 (i + kq = l.length) ∧ Aside0 (acc ++ editP r.ps (tot r.ps) p (l.drop i) = editP r.ps (tot r.ps) 0 l) ∧ Aside0 (acc.length ≤ i * 1000001) ∧ Aside0 (0 ≤ p ∧ p ≤ tot r.ps ∧ sp (tot r.ps) p (l.drop i) = true) ∧ Aside0 (SK w' wx.heap.size w2.heap.size vp acc) ∧ Aside0 (w'.heap[w2.heap.size]? = some (.cells #[vp, .int .i64 0, .pointer (some ⟨g, 0, none⟩), .bool true] 66 (0, 0))) ∧ Aside0 (Below wx.heap.size wx w'))
  case atStart => exact ⟨0, 0, [], .slice none 0 0, rfl, rfl, ⟨by omega⟩, ⟨by simp⟩, ⟨by simp⟩, ⟨by omega, by omega, by simpa using HQ.out.2⟩, ⟨Kd.R_nil _ _ _ _ _⟩, ⟨alloc_at _ _⟩, HB3⟩
  case round =>
    obtain ⟨i, p, acc, vp, rfl, rfl, HK, HC, HL, HP, HO, HG, HB⟩ := hrel
    have HP2 : Aside0 (r.ps.length ≤ 1000000 ∧ l.length ≤ 100) := ⟨hn, by have := hl100.out; omega⟩
    have hmax : l.length ≤ 9223372036854775807 := HR.out.2.1
    by_cases hlt : i < l.length
    · obtain ⟨ad, e, hx0, hx1, hx2⟩ := at_T47 HR.out (i : Int) (by omega) (by omega)
      have hrd : rd_T47 l (i : Int) = l[i] := by simp [rd_T47, hlt]
      rw [hrd, Int.toNat_natCast] at hx0 hx1 hx2
      cases e
      replace hx0 := (HB.out.cell (World.block_lt_of_cell? wx _ hx0)).trans hx0
      replace hx1 := (HB.out.cell (World.block_lt_of_cell? wx _ hx1)).trans hx1
      replace hx2 := (HB.out.cell (World.block_lt_of_cell? wx _ hx2)).trans hx2
      have hC := HC.out
      obtain ⟨p0, p1, p2⟩ := HP.out
      rw [List.drop_eq_getElem_cons hlt] at hC p2
      clear hrd
      generalize l[i] = x at *
      obtain ⟨s1, s2, s3, s4⟩ := sp_cons p2
      simp only [editP] at hC
      have HC2 := Aside0.mk hC
      have HS := Aside0.mk s4
      clear hC HC p2 s4
      go_wp2_with fail
      have hgx : w2.heap.size ≠ wr.heap.size := by have := blk_lt HG.out; omega
      have hba : Below wr.heap.size wr (wr.alloc (.cells #[.int .i64 x.f0, .int .i64 x.f1, .string x.f2] 47)) := (Below.refl _ _).alloc (Nat.le_refl _) _
      have HBa := Aside0.mk (Kx.below_step HB.out hba)
      have HOa : Aside0 (SK (wr.alloc (.cells #[.int .i64 x.f0, .int .i64 x.f1, .string x.f2] 47)) wx.heap.size w2.heap.size vp acc) := ⟨Kd.R_alloc HO.out _⟩
      have HGa := Aside0.mk ((hba.block _ (blk_lt HG.out)).trans HG.out)
      have HXa := Aside0.mk (alloc_at wr (.cells #[.int .i64 x.f0, .int .i64 x.f1, .string x.f2] 47))
      have HOw := HO
      clear hba HB HO HG hx0 hx1 hx2
      generalize wr.alloc (.cells #[.int .i64 x.f0, .int .i64 x.f1, .string x.f2] 47) = W0 at *
      have c0 : W0.cell? ⟨w2.heap.size, 0, none⟩ = some vp := by rw [Lib.cell_of_heap HGa.out]; rfl
      have c1x : W0.cell? ⟨wr.heap.size, 0, none⟩ = some (.int .i64 x.f0) := by rw [Lib.cell_of_heap HXa.out]; rfl
      have HI0 := Aside0.mk (IsRp.below (below_drew1 HBa.out) HI.out)
      have KS : ∀ w3, Below W0.heap.size W0.drew w3 → w3.cell? ⟨w2.heap.size, 0, none⟩ = some vp ∧ w3.cell? ⟨wr.heap.size, 0, none⟩ = some (.int .i64 x.f0) := fun w3 hb => ⟨(hb.cell (p := ⟨w2.heap.size, 0, none⟩) (blk_lt HGa.out)).trans c0, (hb.cell (p := ⟨wr.heap.size, 0, none⟩) (blk_lt HXa.out)).trans c1x⟩
      have hfr : ∀ w3, Below W0.heap.size W0.drew w3 → ∀ k, w3.heap.size ≤ k → k ≠ w2.heap.size := fun w3 hb k hk => by have := hb.size; have := blk_lt HGa.out; have : W0.drew.heap.size = W0.heap.size := rfl; omega
      have hOd : ∀ w3, Below W0.heap.size W0.drew w3 → Kd.R Kd.string 9 w3 wx.heap.size (fun k => k ≠ w2.heap.size) vp acc := fun w3 hb => Kd.R_below (w := W0.drew) HOa.out hb
      have hBd : ∀ w3, Below W0.heap.size W0.drew w3 → Below wx.heap.size wx w3 := fun w3 hb => Kx.below_step (below_drew1 HBa.out) hb
      have hbw : ∀ w3, Below W0.heap.size W0.drew w3 → wx.heap.size ≤ w3.heap.size := fun w3 hb => by have := hb.size; have := HBa.out.size; have : W0.drew.heap.size = W0.heap.size := rfl; omega
      have hlw : (acc.length + (cutP p x.f0 0 r.ps).length) * 16 ≤ 140737488355328 := by have := cutP_length p x.f0 r.ps 0; have := HL.out; have := HP2.out; omega
      have hno : vp.ownBlock ≠ some w2.heap.size := fun h => HOa.out.1 _ h rfl
      have hst4 : ∀ w3 w4, Below W0.heap.size W0.drew w3 → w3.grownBy w4 vp.ownBlock → w4.heap[w2.heap.size]? = some (.cells #[vp, .int .i64 0, .pointer (some ⟨g, 0, none⟩), .bool true] 66 (0, 0)) := fun w3 w4 hb hg => by
        have h1 := (hb.block _ (blk_lt HGa.out)).trans HGa.out
        exact (hg.block _ (blk_lt h1) (fun h => hno h.symm)).trans h1
      have hnx : vp.ownBlock ≠ some wr.heap.size := fun h => by have := Kd.R_lt HOw.out _ h; omega
      have hxt4 : ∀ w3 w4, Below W0.heap.size W0.drew w3 → w3.grownBy w4 vp.ownBlock → w4.heap[wr.heap.size]? = some (.cells #[.int .i64 x.f0, .int .i64 x.f1, .string x.f2] 47 (0, 0)) := fun w3 w4 hb hg => by
        have h1 := (hb.block _ (blk_lt HXa.out)).trans HXa.out
        exact (hg.block _ (blk_lt h1) (fun h => hnx h.symm)).trans h1
      go_region_law (first | (go_simp; go_at_call 50; refine (cut_ok _ r p x.f0 _ HI0.out (by omega) p0 (by omega) (by omega) (by omega) hn).mono ?_; rintro e w3 ⟨u3, rfl, hu3, hb3⟩; obtain ⟨A3, c3, rfl, hc3, hC3⟩ := Kd.R_reads hu3.kd; obtain ⟨hk1, hk2⟩ := KS w3 hb3) | (refine Kd.R_append_rows_step Kd.string wx.heap.size (w0 := wx) (by rfl) (.tmp 37) (.tmp 42) 63 9 (.string ⟨#[]⟩) 16 rfl Try.underlying63 infoString rfl (by decide) (by omega) vp acc (cutP p x.f0 0 r.ps) A3 _ c3 (fun k => k ≠ w2.heap.size) (fun _ => False) rfl rfl (hOd w3 hb3) hC3 (fun _ _ h => h) (fun _ hk => hk.elim) (hfr w3 hb3) (hBd w3 hb3) (hbw w3 hb3) (hlw) ?_; intro v1 w4 hr4 hb4 hg4 hat4; have hst := hst4 w3 w4 hb3 hg4; have hxt := hxt4 w3 w4 hb3 hg4; obtain ⟨A4, c4, hv4, hc4, hC4⟩ := Kd.R_reads hr4; obtain ⟨n4, hn4⟩ : ∃ n, Aside0 (n = (acc ++ cutP p x.f0 0 r.ps).length) := ⟨_, ⟨rfl⟩⟩; rw [← hn4.out] at hv4; subst hv4; have hct : w4.cell? ⟨w2.heap.size, 0, none⟩ = some vp := by { rw [Lib.cell_of_heap hst]; rfl }; have hft := Lib.frozen_of_heap hst 0))
      all_goals
        have HG5 := Aside0.mk (Lib.heap_setCell_same (i := 0) hst (.slice A4 n4 c4))
        have HX5 := Aside0.mk ((Below.heap_setCell w4 ⟨w2.heap.size, 0, none⟩ (.slice A4 n4 c4) wr.heap.size (fun h => hgx h.symm)).trans hxt)
        have HN5 : Aside0 ((Value.slice A4 n4 c4).ownBlock ≠ some wr.heap.size) := ⟨by
          rcases hat4 with h | ⟨b, h, hle⟩
          · rw [h]; exact hnx
          · rw [h]
            intro e
            injection e with e
            have := blk_lt ((hb3.block _ (blk_lt HXa.out)).trans HXa.out)
            omega⟩
        have HO5 := Aside0.mk (Kd.R_far (p := ⟨w2.heap.size, 0, none⟩) hr4 (fun k hk => hk) (.slice A4 n4 c4))
        have HB5 := Aside0.mk (hb4.setCell (p := ⟨w2.heap.size, 0, none⟩) (HB2.out.size) (.slice A4 n4 c4))
        have HL5 : Aside0 ((acc ++ cutP p x.f0 0 r.ps).length ≤ acc.length + 1000000) := ⟨by have := cutP_length p x.f0 r.ps 0; have := HP2.out; simp; omega⟩
        rw [← List.append_assoc, ← List.append_assoc] at HC2
        clear hst hxt hct hft hr4 hb4 hg4 hat4 hC4 hc4 hn4 hk1 hk2 hb3 hu3 hC3 hc3 hst4 hxt4 hfr hbw hOd hBd hlw hno hnx KS HI0 c0 c1x HOa HBa HGa HXa HOw
        clear HP
        generalize w4.setCell ⟨w2.heap.size, 0, none⟩ (.slice A4 n4 c4) = w5 at *
        generalize hv5 : Value.slice A4 n4 c4 = v5 at *
        generalize acc ++ cutP p x.f0 0 r.ps = acc5 at *
        have d0 : w5.cell? ⟨w2.heap.size, 0, none⟩ = some v5 := by rw [Lib.cell_of_heap HG5.out]; rfl
        have d1 : w5.cell? ⟨wr.heap.size, 1, none⟩ = some (.int .i64 x.f1) := by rw [Lib.cell_of_heap HX5.out]; rfl
        have d2 : w5.cell? ⟨wr.heap.size, 2, none⟩ = some (.string x.f2) := by rw [Lib.cell_of_heap HX5.out]; rfl
        cases gk with
        | zero => exact absurd hlt (by have := HK.out; omega)
        | succ kq' =>
        by_cases hz : x.f2.size = 0
        · have h0 := Ut.empty_of hz
          rw [if_pos hz] at HC2
          have HZ := Aside0.mk hz
          clear hz
          go_wp2_with fail
          go_roundg kq'
          case measure => omega
          case rel => exact ⟨i + 1, x.f1, acc5, v5, rfl, by go_num, ⟨by have := HK.out; omega⟩, ⟨by simpa using HC2.out⟩, ⟨by have := HL5.out; have := HL.out; omega⟩, ⟨by omega, by omega, HS.out⟩, HO5, HG5, HB5⟩
        · have h0 := Ut.nonempty_of hz
          rw [if_neg hz] at HC2
          have HZ := Aside0.mk hz
          clear hz
          have hg5 := blk_lt HG5.out
          have hno5 : v5.ownBlock ≠ some w2.heap.size := fun h => HO5.out.1 _ h rfl
          have hnx5 := HN5.out
          go_wp2_with fail
          go_region_law (refine Kd.R_append_step Kd.string wx.heap.size (w0 := wx) (W := w5.drew) (by rfl) (.tmp 53) (.tmp 56) 63 9 (.string ⟨#[]⟩) 16 rfl Try.underlying63 infoString rfl (by decide) (by omega) v5 acc5 x.f2 [.string x.f2] (fun k => k ≠ w2.heap.size) (fun _ => False) rfl rfl rfl (fun _ hk => hk.elim) (fun k (hk : w5.heap.size ≤ k) => by omega) (Kd.R_drew HO5.out) (below_drew1 HB5.out) HB5.out.size (by have := HL5.out; have := HL.out; have := HP2.out; omega) ?_; intro v6 w6 hr6 hb6 hg6 hat6; have hst := (hg6.block w2.heap.size hg5 (fun h => hno5 h.symm)).trans HG5.out; obtain ⟨A6, c6, hv6, hc6, hC6⟩ := Kd.R_reads hr6; obtain ⟨n6, hn6⟩ : ∃ n, Aside0 (n = (acc5 ++ [x.f2]).length) := ⟨_, ⟨rfl⟩⟩; rw [← hn6.out] at hv6; subst hv6; have hct : w6.cell? ⟨w2.heap.size, 0, none⟩ = some v5 := by { rw [Lib.cell_of_heap hst]; rfl }; have hft := Lib.frozen_of_heap hst 0; have hxt := (hg6.block wr.heap.size (blk_lt HX5.out) (fun h => hnx5 h.symm)).trans HX5.out)
          all_goals
            have HG6 := Aside0.mk (Lib.heap_setCell_same (i := 0) hst (.slice A6 n6 c6))
            have HX6 := Aside0.mk ((Below.heap_setCell w6 ⟨w2.heap.size, 0, none⟩ (.slice A6 n6 c6) wr.heap.size (fun h => hgx h.symm)).trans hxt)
            have HO6 := Aside0.mk (Kd.R_far (p := ⟨w2.heap.size, 0, none⟩) hr6 (fun k hk => hk) (.slice A6 n6 c6))
            have HB6 := Aside0.mk (hb6.setCell (p := ⟨w2.heap.size, 0, none⟩) (HB2.out.size) (.slice A6 n6 c6))
            clear hst hxt hct hft hr6 hb6 hg6 hat6 hC6 hc6 hn6 hno5 hnx5 HN5 HX5 HG5 HO5 HB5 hg5 d0 d1 d2
            generalize w6.setCell ⟨w2.heap.size, 0, none⟩ (.slice A6 n6 c6) = w7 at *
            generalize hv7 : Value.slice A6 n6 c6 = v7 at *
            have d1 : w7.cell? ⟨wr.heap.size, 1, none⟩ = some (.int .i64 x.f1) := by rw [Lib.cell_of_heap HX6.out]; rfl
            go_wp2_with fail
            go_roundg kq'
            case measure => omega
            case rel => exact ⟨i + 1, x.f1, acc5 ++ [x.f2], v7, rfl, by go_num, ⟨by have := HK.out; omega⟩, HC2, ⟨by have := HL5.out; have := HL.out; simp; omega⟩, ⟨by omega, by omega, HS.out⟩, HO6, HG6, HB6⟩
    · have hil : i = l.length := by have := HK.out; omega
      have hC := HC.out
      rw [List.drop_of_length_le (by omega)] at hC
      simp only [editP] at hC
      obtain ⟨p0, p1, p2⟩ := HP.out
      have HC2 := Aside0.mk hC
      clear hC HC p2 HP
      have hgB : g < wx.heap.size := World.block_lt_of_cell? wx ⟨g, 1, none⟩ h1
      have hg1 : wr.cell? ⟨g, 1, none⟩ = some (.int .i64 (tot r.ps : Nat)) := (HB.out.cell (p := ⟨g, 1, none⟩) hgB).trans h1
      have c0 : wr.cell? ⟨w2.heap.size, 0, none⟩ = some vp := by rw [Lib.cell_of_heap HG.out]; rfl
      have HI0 := Aside0.mk (IsRp.below (below_drew1 HB.out) HI.out)
      clear h1
      have hlt2 := blk_lt HG.out
      have hno : vp.ownBlock ≠ some w2.heap.size := fun h => HO.out.1 _ h rfl
      have KS : ∀ w3, Below wr.heap.size wr.drew w3 → w3.cell? ⟨w2.heap.size, 0, none⟩ = some vp ∧ w3.cell? ⟨g, 1, none⟩ = some (.int .i64 (tot r.ps : Nat)) := fun w3 hb => ⟨(hb.cell (p := ⟨w2.heap.size, 0, none⟩) hlt2).trans c0, (hb.cell (p := ⟨g, 1, none⟩) (by have := HB.out.size; show g < wr.heap.size; omega)).trans hg1⟩
      have hfr : ∀ w3, Below wr.heap.size wr.drew w3 → ∀ k, w3.heap.size ≤ k → k ≠ w2.heap.size := fun w3 hb k hk => by have := hb.size; have : wr.drew.heap.size = wr.heap.size := rfl; omega
      have hbw : ∀ w3, Below wr.heap.size wr.drew w3 → wx.heap.size ≤ w3.heap.size := fun w3 hb => by have := hb.size; have := HB.out.size; have : wr.drew.heap.size = wr.heap.size := rfl; omega
      have hlw : (acc.length + (cutP p (tot r.ps : Nat) 0 r.ps).length) * 16 ≤ 140737488355328 := by have := cutP_length p (tot r.ps : Nat) r.ps 0; have := HL.out; have := HP2.out; omega
      have hOd : ∀ w3, Below wr.heap.size wr.drew w3 → Kd.R Kd.string 9 w3 wx.heap.size (fun k => k ≠ w2.heap.size) vp acc := fun w3 hb => Kd.R_below (w := wr.drew) HO.out hb
      have hBd : ∀ w3, Below wr.heap.size wr.drew w3 → Below wx.heap.size wx w3 := fun w3 hb => Kx.below_step (below_drew1 HB.out) hb
      have hst4 : ∀ w3 w4, Below wr.heap.size wr.drew w3 → w3.grownBy w4 vp.ownBlock → w4.heap[w2.heap.size]? = some (.cells #[vp, .int .i64 0, .pointer (some ⟨g, 0, none⟩), .bool true] 66 (0, 0)) := fun w3 w4 hb hg => by
        have h1 := (hb.block _ (blk_lt HG.out)).trans HG.out
        exact (hg.block _ (blk_lt h1) (fun h => hno h.symm)).trans h1
      go_wp2_with fail
      go_region_law (first | (refine Kd.R_append_rows_step Kd.string wx.heap.size (w0 := wx) (by rfl) (.tmp 67) (.tmp 74) 63 9 (.string ⟨#[]⟩) 16 rfl Try.underlying63 infoString rfl (by decide) (by omega) vp acc (cutP p (tot r.ps : Nat) 0 r.ps) A3 _ c3 (fun k => k ≠ w2.heap.size) (fun _ => False) rfl rfl (hOd w3 hb3) hC3 (fun _ _ h => h) (fun _ hk => hk.elim) (hfr w3 hb3) (hBd w3 hb3) (hbw w3 hb3) hlw ?_; intro v1 w4 hr4 hb4 hg4 hat4; have hst := hst4 w3 w4 hb3 hg4; obtain ⟨A4, c4, hv4, hc4, hC4, hD4⟩ := RS.of_SK hr4 (by simp; omega); obtain ⟨n4, hn4⟩ : ∃ n, Aside0 (n = (acc ++ cutP p (tot r.ps : Nat) 0 r.ps).length) := ⟨_, ⟨rfl⟩⟩; rw [← hn4.out] at hv4; subst hv4; have hct : w4.cell? ⟨w2.heap.size, 0, none⟩ = some vp := by { rw [Lib.cell_of_heap hst]; rfl }; have hft := Lib.frozen_of_heap hst 0) | (go_simp; go_at_call 50; refine (cut_ok _ r p (tot r.ps : Nat) _ HI0.out (by omega) p0 (by omega) (by omega) (by omega) hn).mono ?_; rintro e w3 ⟨u3, rfl, hu3, hb3⟩; obtain ⟨A3, c3, rfl, hc3, hC3⟩ := Kd.R_reads hu3.kd; obtain ⟨hk1, hk2⟩ := KS w3 hb3))
      all_goals
        rw [HC2.out] at hn4 hc4 hC4
        have HG5 := Aside0.mk (Lib.heap_setCell_same (i := 0) hst (.slice A4 n4 c4))
        have HB5 := Aside0.mk (hb4.setCell (p := ⟨w2.heap.size, 0, none⟩) (HB2.out.size) (.slice A4 n4 c4))
        have HR5 := Aside0.mk (hC4.far hD4 0 (.slice A4 n4 c4))
        have HD5 := Aside0.mk hD4
        have HF5 := Aside0.mk (SK.base hr4)
        have HC5 := Aside0.mk hc4
        have hn4m : n4 ≤ 9223372036854775807 := by have := hC4.1; have := hn4.out; omega
        clear hst hct hft hr4 hb4 hg4 hat4 hC4 hc4 hD4 hk1 hk2 hb3 hu3 hC3 hc3 hst4 hfr hbw hOd hBd hlw hno KS HI0 c0 hg1 HC2 HO HG HB
        generalize w4.setCell ⟨w2.heap.size, 0, none⟩ (.slice A4 n4 c4) = w5 at *
        obtain ⟨full, hfull⟩ : ∃ full, Aside0 (full = editP r.ps (tot r.ps) 0 l) := ⟨_, ⟨rfl⟩⟩
        rw [← hfull.out] at hn4 HC5 HR5 HT
        have d0 : w5.cell? ⟨w2.heap.size, 0, none⟩ = some (.slice A4 n4 c4) := by rw [Lib.cell_of_heap HG5.out]; rfl
        go_wp2_with fail
        clear d0
        go_loopg [83] n4 (fun kq v83 w' => ∃ (j : Nat), v83 = .int .i64 j ∧ Aside0 (j + kq = n4) ∧ Aside0 (w'.heap[w2.heap.size]? = some (.cells #[.slice A4 n4 c4, .int .i64 (tot (full.take j) : Nat), .pointer (some ⟨g, 0, none⟩), .bool true] 66 (0, 0))) ∧ Aside0 (RS w' A4 full) ∧ Aside0 (Below wx.heap.size wx w'))
        case atStart => exact ⟨0, rfl, ⟨by omega⟩, by simpa [tot] using HG5, HR5, HB5⟩
        case round =>
          clear HG5 HB5 HR5
          obtain ⟨j, rfl, HK, HG, HR, HB⟩ := hrel
          by_cases hjn : j < n4
          · have hjf : j < full.length := by have := hn4.out; omega
            obtain ⟨bk, o, rfl, hx⟩ := HR.out.2 (by omega)
            have hx1 := hx j _ (List.getElem?_eq_getElem hjf)
            have HT2 := Aside0.mk (tot_take full j hjf)
            have HT3 := Aside0.mk (tot_take_le full (j + 1))
            clear hx
            generalize full[j] = s at *
            obtain ⟨m, hm⟩ : ∃ m, Aside0 (m = tot (full.take j)) := ⟨_, ⟨rfl⟩⟩
            have d1 : wr.cell? ⟨w2.heap.size, 1, none⟩ = some (.int .i64 (m : Nat)) := by rw [Lib.cell_of_heap HG.out, hm.out]; rfl
            have d2 := Lib.frozen_of_heap HG.out 1
            have HS := Aside0.mk (show m + s.size ≤ 1000000 by have := HT.out; have := HT2.out; have := HT3.out; have := hm.out; omega)
            cases gk with
            | zero => exact absurd hjn (by have := HK.out; omega)
            | succ kq' =>
            go_wp2_with fail
            go_roundg kq'
            case measure => omega
            case rel =>
              have e1 : m + s.size = tot (full.take (j + 1)) := by rw [HT2.out, hm.out]
              refine ⟨j + 1, by go_num, ⟨by have := HK.out; omega⟩, ⟨(Lib.heap_setCell_same (i := 1) HG.out _).trans ?_⟩, ⟨HR.out.far HD5.out 1 _⟩, ⟨HB.out.setCell (p := ⟨w2.heap.size, 1, none⟩) (HB2.out.size) _⟩⟩
              rw [w64 (by omega) (by have := HS.out; omega), ← e1, ← hm.out]
              rfl
          · have hjl : j = n4 := by have := HK.out; omega
            have hG := HG.out
            rw [List.take_of_length_le (by have := hn4.out; omega)] at hG
            have HG' := Aside0.mk hG
            clear hG HG
            go_wp2_with fail
            go_ret2
            rw [← hfull.out]
            refine ⟨_, rfl, ⟨HB2.out.size, A4, c4, ?_, ?_, HR.out.f HF5.out⟩, HB.out⟩
            · rw [HG'.out, hn4.out]
            · have := HC5.out; exact this
end Go.Proofs.Ytfllpoonfhiipaa.Rope

set_option linter.unusedVariables false
namespace Go.Proofs.Ytfllpoonfhiipaa.Pure
open Go.RowKit Go.Proofs.Ytfllpoonfhiipaa Go.Proofs.Ytfllpoonfhiipaa.P Go.Proofs.Ytfllpoonfhiipaa.Rope Go.Proofs.YtfllpoonfhiipaaW.PrintWords Go.Proofs.YtfllpoonfhiipaaW.PrintLast Go.Proofs.YtfllpoonfhiipaaW.PrintMore
theorem txt_cons (s : ByteArray) (r : List ByteArray) : txt (s :: r) = s.data.toList ++ txt r := by simp [txt]
theorem txt_append (a b : List ByteArray) : txt (a ++ b) = txt a ++ txt b := by simp [txt]
theorem ext_list (s : ByteArray) (a b : Nat) : (s.extract a b).data.toList = (s.data.toList.take b).drop a := by
  simp [ByteArray.data_extract, Array.toList_extract, List.extract_eq_take_drop, List.drop_take]
theorem txt_cutP (a b : Int) (ha : 0 ≤ a) : ∀ (ps : List ByteArray) (p : Int), 0 ≤ p → txt (cutP a b p ps) = ((txt ps).take (b - p).toNat).drop (a - p).toNat
  | [], p, hp => by simp [cutP, txt]
  | s :: r, p, hp => by
    have ih := txt_cutP a b ha r (p + s.size) (by omega)
    have hsz : s.data.toList.length = s.size := Ut.size_data s
    rw [txt_cons, List.take_append, List.drop_append, hsz, List.length_take, hsz]
    have e1 : (b - (p + s.size)).toNat = (b - p).toNat - s.size := by omega
    have e2 : (a - (p + s.size)).toNat = (a - p).toNat - s.size := by omega
    rw [e1, e2] at ih
    simp only [cutP]
    by_cases hb : (s.size : Int) < b - p
    · rw [if_pos hb]
      have m1 : min (b - p).toNat s.size = s.size := by omega
      rw [m1]
      by_cases hx : (if a - p < 0 then 0 else a - p) < (s.size : Int)
      · rw [if_pos hx, txt_cons, ih, ext_list]
        have e3 : (if a - p < 0 then (0 : Int) else a - p).toNat = (a - p).toNat := by split <;> omega
        rw [e3]
        congr 2
        rw [List.take_of_length_le (by omega), List.take_of_length_le (by omega)]
      · rw [if_neg hx, ih, show (s.data.toList.take (b - p).toNat).drop (a - p).toNat = [] from List.drop_of_length_le (by rw [List.length_take, hsz]; revert hx; split <;> omega)]
        simp
    · rw [if_neg hb]
      have m1 : min (b - p).toNat s.size = (b - p).toNat := by omega
      have z1 : (b - p).toNat - s.size = 0 := by omega
      rw [z1, List.take_zero, List.drop_nil] at ih
      rw [m1, z1, List.take_zero, List.drop_nil, List.append_nil]
      by_cases hx : (if a - p < 0 then 0 else a - p) < b - p
      · rw [if_pos hx, txt_cons, ih, ext_list, List.append_nil]
        have e3 : (if a - p < 0 then (0 : Int) else a - p).toNat = (a - p).toNat := by split <;> omega
        rw [e3]
      · rw [if_neg hx, ih, List.drop_of_length_le (by rw [List.length_take, hsz]; revert hx; split <;> omega)]
theorem txt_cut0 (a b : Int) (ha : 0 ≤ a) (ps : List ByteArray) : txt (cutP a b 0 ps) = cutS (ba (txt ps)) a b := by
  rw [txt_cutP a b ha ps 0 (by omega), cutS_eq, ba_list]
  simp
theorem txt_editP (ps : List ByteArray) : ∀ (l : List Ed) (p : Int), sp (tot ps) p l = true → 0 ≤ p → txt (editP ps (tot ps) p l) = app (ba (txt ps)) p l
  | [], p, h, hp => by
    have e : ((ba (txt ps)).size : Int) = tot ps := by rw [ba_size, txt_length]
    simp only [editP, app]
    rw [txt_cut0 _ _ hp, e]
  | e :: r, p, h, hp => by
    obtain ⟨h1, h2, h3, h4⟩ := sp_cons h
    simp only [editP, app]
    rw [txt_append, txt_append, txt_cut0 _ _ hp, txt_editP ps r e.f1 h4 (by omega)]
    congr 2
    by_cases hz : e.f2.size = 0
    · rw [if_pos hz]
      have : e.f2.data.toList.length = 0 := by rw [Ut.size_data]; exact hz
      rw [List.length_eq_zero_iff.mp this]
      simp [txt]
    · rw [if_neg hz]; simp [txt]
theorem chk_of {n : Int} {l : List Ed} (h1 : n ≤ 20000) (h2 : l.length ≤ 100) (h3 : sp n 0 l = true) (h4 : n - spanSum l + newSum l ≤ 20000) : chk n l = 0 := by
  unfold chk
  rw [if_neg (by omega), if_neg (by omega), if_pos h3, if_neg (by omega)]
end Go.Proofs.Ytfllpoonfhiipaa.Pure

set_option linter.unusedVariables false
namespace Go.Proofs.Ytfllpoonfhiipaa.Pure
open Go.RowKit Go.Proofs.Ytfllpoonfhiipaa Go.Proofs.Ytfllpoonfhiipaa.P Go.Proofs.YtfllpoonfhiipaaW.PrintWords Go.Proofs.YtfllpoonfhiipaaW.PrintLast Go.Proofs.YtfllpoonfhiipaaW.PrintMore
theorem tot_one (s : ByteArray) : Rope.tot (Rope.one s) = s.size := by
  unfold Rope.one Rope.tot
  split <;> simp_all
theorem txt_one (s : ByteArray) : Rope.txt (Rope.one s) = s.data.toList := by
  unfold Rope.one Rope.txt
  split
  · have : s.data.toList.length = 0 := by rw [Ut.size_data]; assumption
    rw [List.length_eq_zero_iff.mp this]
    simp
  · simp
theorem one_length (s : ByteArray) : (Rope.one s).length ≤ 1 := by
  unfold Rope.one
  split <;> simp
end Go.Proofs.Ytfllpoonfhiipaa.Pure

set_option linter.unusedVariables false
namespace Go.Proofs.Ytfllpoonfhiipaa.Pure
open Go Go.RowKit Go.Proofs.Ytfllpoonfhiipaa Go.Proofs.Ytfllpoonfhiipaa.P Go.Proofs.YtfllpoonfhiipaaW.PrintWords Go.Proofs.Ytfllpoonfhiipaa.MgP
theorem app_nil (s : ByteArray) : ba (app s 0 []) = s := by
  rw [app, cutS_eq, List.take_of_length_le (by rw [Ut.size_data]; omega)]
  exact list_ba s
theorem chk_nil {n : Nat} (h : n ≤ 20000) : chk n [] = 0 := chk_of (by omega) (by simp) rfl (by simp [spanSum, newSum]; omega)
end Go.Proofs.Ytfllpoonfhiipaa.Pure

set_option linter.unusedVariables false
set_option linter.unusedSimpArgs false
namespace Go.Proofs.Ytfllpoonfhiipaa.Pure
open Go Go.RowKit Go.Proofs.Ytfllpoonfhiipaa Go.Proofs.Ytfllpoonfhiipaa.P Go.Proofs.YtfllpoonfhiipaaW.PrintWords Go.Proofs.YtfllpoonfhiipaaW.PrintLast Go.Proofs.YtfllpoonfhiipaaW.PrintMore Go.Proofs.Ytfllpoonfhiipaa.MgP
theorem cutE_cutE (n : Nat) (e : Ed) : cutE n (cutE n e) = cutE n e := by
  unfold cutE
  simp only [S47.mk.injEq, true_and]
  apply ByteArray.ext
  apply Array.toList_inj.mp
  rw [ext_list, ext_list, ByteArray.size_extract, List.drop_zero, List.drop_zero, List.take_take]
  congr 1
  omega
theorem cut_cut (n : Nat) (l : List Ed) : cut n (cut n l) = cut n l := by
  unfold cut
  rw [List.take_of_length_le (by simp; omega), List.map_map]
  exact List.map_congr_left fun e _ => cutE_cutE n e
theorem merge_total (T : ByteArray) (l1 l2 : List Ed) (hT : T.size ≤ 20000) (hf1 : Fit l1) (hf2 : Fit l2) : ∃ m e, Ev (fun k => rope_Merge.f k T l1 l2) (m, e) ∧ (e = 0 ∨ chk T.size l1 ≠ 0 ∨ 0 < l1.length + l2.length) := by
  by_cases c1 : chk T.size l1 = 0
  · by_cases c2 : chk (ba (app T 0 l1)).size l2 = 0
    · obtain ⟨Gs, hG⟩ := merge_ok T l1 l2 hf1 hf2 c1 c2
      have hl := mrgE_len (ba (app T 0 l1)) Gs 0
      have hn := hG.len
      by_cases c3 : (mrgE (ba (app T 0 l1)) 0 Gs).length > 100
      · have := hG.ev
        rw [if_pos c3] at this
        exact ⟨_, _, this, .inr (.inr (by omega))⟩
      · have := hG.ev
        rw [if_neg c3] at this
        exact ⟨_, _, this, .inl rfl⟩
    · refine ⟨_, _, merge_bad2 T l1 l2 hf1 hf2 c1 c2, ?_⟩
      right; right
      rcases Nat.eq_zero_or_pos (l1.length + l2.length) with h | h
      · exfalso
        have e1 : l1 = [] := List.eq_nil_of_length_eq_zero (by omega)
        have e2 : l2 = [] := List.eq_nil_of_length_eq_zero (by omega)
        subst e1 e2
        rw [app_nil] at c2
        exact c2 (chk_nil hT)
      · exact h
  · exact ⟨_, _, merge_bad1 T l1 l2 (by omega) hf1 c1, .inr (.inl c1)⟩
theorem one3 (n : Int) : ∀ q ∈ ([.int .i64 n, .int .i64 0, .string ⟨#[]⟩] : List Value), q.oneCell' = true := by
  intro q hq
  simp only [List.mem_cons, List.not_mem_nil, or_false] at hq
  rcases hq with rfl | rfl | rfl <;> rfl
theorem row_of {w w' : World} {base N : Nat} {v : Value} {xs : List Ed} (h : Kd.R k47 47 w base (fun _ => True) v xs) (hb : Below w.heap.size w w') : Kd.R k47 47 w' base (fun k => base ≤ k ∧ k < w.heap.size) v xs :=
  Kd.R_below (Kd.R_mono (Kd.R_bound h) (fun k hk => ⟨hk.2.1, hk.2.2.1⟩)) hb
theorem rope_kept {P : Nat → Prop} {W W' : World} {S : Nat → Prop} {v : Value} {r : Rope.Rp} (h : Rope.IsRpF P W v r) (hk : Kept W W' S) (hne : ∀ k, P k → ¬ S k) : Rope.IsRpF P W' v r := h.move (fun k hp hlt => ⟨hk.2 k hlt (hne k hp), hp⟩)
set_option maxHeartbeats 16000000 in
set_option maxRecDepth 100000 in
theorem RopeOwn (W : World) (a0 : ByteArray) (A1 : Option Addr) (c1 : Nat) (a1 : List (S47)) (A2 : Option Addr) (c2 : Nat) (a2 : List (S47)) (hr1 : Kd.C k47 W A1 a1.length a1) (hc1 : a1.length ≤ c1) (hr2 : Kd.C k47 W A2 a2.length a2) (hc2 : a2.length ≤ c2) (h0 : OpG.okS a0)
    (h1 : (fun l => l.length ≤ 9223372036854775807 ∧ ∀ a ∈ l, ok47 a) a1) (h2 : (fun l => l.length ≤ 9223372036854775807 ∧ ∀ a ∈ l, ok47 a) a2) :
    Calls Try.prog 14 #[.string a0, .slice A1 a1.length c1, .slice A2 a2.length c2] W fun e w' => e = .returned (.bool true) ∧ Below W.heap.size W w' := by
  have hf1 : Fit (cut 400 a1) := (cut_fine h1.2).fit (by omega)
  have hf2 : Fit (cut 400 a2) := (cut_fine h2.2).fit (by omega)
  obtain ⟨K1, hK1⟩ := Cut_ev a1 400 h1.1
  obtain ⟨K2, hK2⟩ := Cut_ev a2 400 h2.1
  have hl1 := cut_length 400 a1
  have hl2 := cut_length 400 a2
  obtain ⟨K3, hK3⟩ := Cut_ev (cut 400 a1) 400 (by omega)
  obtain ⟨K4, hK4⟩ := Cut_ev (cut 400 a2) 400 (by omega)
  rw [cut_cut] at hK3 hK4
  have hcut1 := hK1 K1 (Nat.le_refl _)
  have hcut2 := hK2 K2 (Nat.le_refl _)
  have hcut3 := hK3 K3 (Nat.le_refl _)
  have hcut4 := hK4 K4 (Nat.le_refl _)
  have hz := short_size a0
  have hSh := Short_eq a0
  clear hK1 hK2 hK3 hK4
  generalize cut 400 a1 = t at *
  generalize cut 400 a2 = u at *
  have HR1 := Aside0.mk hr1
  have HR2 := Aside0.mk hr2
  have HL := Aside0.mk (And.intro hc1 hc2)
  have HZ := Aside0.mk (And.intro hl1 hl2)
  have HF := Aside0.mk (And.intro hf1 hf2)
  clear h0 h1 h2 hr1 hr2 hc1 hc2 hl1 hl2 hf1 hf2
  have HCUT := Aside0.mk (And.intro hcut1 (And.intro hcut2 (And.intro hcut3 hcut4)))
  clear hcut1 hcut2 hcut3 hcut4
  go_enter Try.func14, Try.ntmps14
  go_wp2_with fail
  refine (marginaliaref01_Short.calls a0 _ _ hSh).mono ?_
  rintro e w1 ⟨rfl, hb1⟩
  have HB1 := Aside0.mk hb1
  have HB1z := Aside0.mk hb1
  clear hb1 hSh
  generalize short a0 = s at *
  have HSZ := Aside0.mk hz
  clear hz
  go_wp2_with fail
  refine (marginaliaref01_Cut.calls K1 _ _ a1 400 _ _ (Kd.C_below HR1.out HB1.out) HL.out.1 HCUT.out.1).mono ?_
  rintro e w2 ⟨v1, rfl, hv, hb⟩
  obtain ⟨A1_, c1_, rfl, hcc, hC⟩ := Kd.R_reads hv
  have HRow1 := Aside0.mk hv
  have HC1 := Aside0.mk hC
  have HCc1 := Aside0.mk hcc
  have HS2 := Aside0.mk hb
  have HB2 := Aside0.mk (Kx.below_step HB1.out hb)
  clear hv hb hcc hC
  go_wp2_with fail
  refine (marginaliaref01_Cut.calls K2 _ _ a2 400 _ _ (Kd.C_below HR2.out HB2.out) HL.out.2 HCUT.out.2.1).mono ?_
  rintro e w3 ⟨v2, rfl, hv, hb⟩
  obtain ⟨A2_, c2_, rfl, hcc, hC⟩ := Kd.R_reads hv
  have HRow2 := Aside0.mk hv
  have HC2 := Aside0.mk hC
  have HCc2 := Aside0.mk hcc
  have HS3 := Aside0.mk hb
  have HB3 := Aside0.mk (Kx.below_step HB2.out hb)
  clear hv hb hcc hC
  go_wp2_with fail
  refine (marginaliaref01_Cut.calls K3 _ _ t 400 _ _ (Kd.C_below HC1.out HS3.out) HCc1.out HCUT.out.2.2.1).mono ?_
  rintro e w4 ⟨v3, rfl, hv, hb⟩
  obtain ⟨A3_, c3_, rfl, hcc, hC⟩ := Kd.R_reads hv
  have HRow3 := Aside0.mk hv
  have HC3 := Aside0.mk hC
  have HCc3 := Aside0.mk hcc
  have HS4 := Aside0.mk hb
  have HB4 := Aside0.mk (Kx.below_step HB3.out hb)
  clear hv hb hcc hC
  have HD1 := Aside0.mk (Kx.below_step HS3.out HS4.out)
  go_wp2_with fail
  refine (marginaliaref01_Cut.calls K4 _ _ u 400 _ _ (Kd.C_below HC2.out HS4.out) HCc2.out HCUT.out.2.2.2).mono ?_
  rintro e w5 ⟨v4, rfl, hv, hb⟩
  obtain ⟨A4_, c4_, rfl, hcc, hC⟩ := Kd.R_reads hv
  have HRow4 := Aside0.mk hv
  have HC4 := Aside0.mk hC
  have HCc4 := Aside0.mk hcc
  have HS5 := Aside0.mk hb
  have HB5 := Aside0.mk (Kx.below_step HB4.out hb)
  clear hv hb hcc hC
  have HD2 := Aside0.mk (Kx.below_step HD1.out HS5.out)
  have HE2 := Aside0.mk (Kx.below_step HS4.out HS5.out)
  -- the rows, all in w5
  have RA := Aside0.mk (row_of (N := 0) HRow1.out HD2.out)
  have RB := Aside0.mk (row_of (N := 0) HRow2.out HE2.out)
  have RK := Aside0.mk (row_of (N := 0) HRow3.out HS5.out)
  have RO := Aside0.mk (row_of (N := 0) HRow4.out (Below.refl _ _))
  have HN := Aside0.mk (And.intro HS3.out.size (And.intro HS4.out.size HS5.out.size))
  clear HRow1 HRow2 HRow3 HRow4 HC1 HC2 HC3 HC4 HCc1 HCc2 HCc3 HCc4 HD1 HD2 HE2 HS3 HS4 HS5 HB1 HB2 HB3 HB4 HR1 HR2 HL HCUT
  by_cases hs : s.size ≤ 20000
  · have d0 : decide ((s.size : Int) > 20000) = false := decide_eq_false (by omega)
    obtain ⟨ml, me, hme, hmz⟩ := merge_total s t u hs HF.out.1 HF.out.2
    obtain ⟨K5, hK5⟩ := hme
    have HME := Aside0.mk (hK5 K5 (Nat.le_refl _))
    have HMZ := Aside0.mk hmz
    obtain ⟨K6, hK6⟩ := invert_ev s t (by omega) HF.out.1
    obtain ⟨il, ie, hil, hie⟩ : ∃ il ie, rope_Invert.f K6 s t = some (il, ie) ∧ (chk s.size t = 0 → ie = 0) := ⟨_, _, hK6 K6 (Nat.le_refl _), fun h => h⟩
    have HIV := Aside0.mk hil
    have HIE := Aside0.mk hie
    clear hil hie
    obtain ⟨K7, hK7⟩ := same_ev t t (by have := HZ.out; omega)
    obtain ⟨K8, hK8⟩ := same_ev u u (by have := HZ.out; omega)
    rw [sameB_refl] at hK7 hK8
    have HSM := Aside0.mk (And.intro (hK7 K7 (Nat.le_refl _)) (hK8 K8 (Nat.le_refl _)))
    have HSS := Aside0.mk hs
    clear hK5 hK6 hK7 hK8 hmz hs
    go_wp2_with fail
    refine (Rope.New_okF s _ HSS.out).mono ?_
    rintro e w6 ⟨v6, rfl, hI6, hb6⟩
    have HB6 := Aside0.mk (Kx.below_step HB5.out hb6)
    have HI6 := Aside0.mk hI6
    have HS6 := Aside0.mk hb6
    clear hb6 hI6
    obtain ⟨g6, u6, hv6, _⟩ := HI6.out.is.open
    subst hv6
    by_cases hk : chk s.size t = 0
    · have HKK := Aside0.mk hk
      have htx0 : Rope.tot (Rope.editP (Rope.one s) (Rope.tot (Rope.one s)) 0 t) ≤ 20000 := by
        obtain ⟨o1, o2, o3, o4⟩ := chk_ok hk
        have e1 := app_length s t 0 o3 (by omega) (by omega)
        have e2 := congrArg List.length (txt_editP (Rope.one s) t 0 (by rw [tot_one]; exact o3) (by omega))
        rw [Rope.txt_length, txt_one, list_ba] at e2
        omega
      have HTE := Aside0.mk htx0
      clear hk htx0
      go_wp2_with fail
      refine (Rope.Edit_okF _ _ _ _ t _ HI6.out.is (by have := HSS.out; show Rope.tot (Rope.one s) ≤ _; rw [tot_one]; omega) (by have := one_length s; show (Rope.one s).length ≤ _; omega) HF.out.1 (Kd.C_below (Kd.R_reads' RA.out).2.2 HS6.out) (Kd.R_reads' RA.out).2.1 (by show chk (Rope.tot (Rope.one s)) t = 0; rw [tot_one]; exact HKK.out) (Nat.le_trans HTE.out (by decide))).mono ?_
      rintro e w7 ⟨g7, rfl, hI7, hb7⟩
      have HS7 := Aside0.mk hb7
      have HB7 := Aside0.mk (Kx.below_step HB6.out hb7)
      have hle56 := HS6.out.size
      have HIN := Aside0.mk (show Rope.IsRpF (fun k => w5.heap.size ≤ k ∧ k < w7.heap.size) w7 (.pointer (some ⟨g7, 0, none⟩)) (.step (Rope.editP (Rope.one s) (Rope.tot (Rope.one s)) 0 t) (.base (Rope.one s))) from ⟨g7, _, rfl, hI7.move (fun k hp hk => ⟨rfl, by omega, hk⟩), (HI6.out.below hb7).to (fun k hp hk => ⟨hp, hk⟩)⟩)
      clear hb7 hI7 hle56
      go_wp2_with fail
      refine (rope_Invert.calls K6 s _ _ t _ _ _ (Kd.C_below (Kd.C_below (Kd.R_reads' RA.out).2.2 HS6.out) HS7.out) (Kd.R_reads' RA.out).2.1 HIV.out).mono ?_
      rintro e w8 ⟨v8, rfl, hv8, hb8⟩
      obtain ⟨Ai, ci, ei⟩ := Kd.R_slice hv8
      subst ei
      have HI8 := Aside0.mk hv8
      have HB8 := Aside0.mk (Kx.below_step HB7.out hb8)
      have HS8 := Aside0.mk hb8
      clear hv8 hb8
      go_wp2_with fail
      refine (rope_Merge.calls K5 s _ _ t _ _ u _ _ _ (Kd.C_below (Kd.C_below (Kd.C_below (Kd.R_reads' RA.out).2.2 HS6.out) HS7.out) HS8.out) (Kd.R_reads' RA.out).2.1 (Kd.C_below (Kd.C_below (Kd.C_below (Kd.R_reads' RB.out).2.2 HS6.out) HS7.out) HS8.out) (Kd.R_reads' RB.out).2.1 HME.out).mono ?_
      rintro e w9 ⟨v9, rfl, hv9, hb9⟩
      obtain ⟨Am, cm, em⟩ := Kd.R_slice hv9
      subst em
      have HM9 := Aside0.mk hv9
      have HB9 := Aside0.mk (Kx.below_step HB8.out hb9)
      have HS9 := Aside0.mk hb9
      clear hv9 hb9
      have HG9 := Aside0.mk (Kx.below_step (Kx.below_step (Kx.below_step HS6.out HS7.out) HS8.out) HS9.out)
      have HNN := Aside0.mk (And.intro HS6.out.size (And.intro HS7.out.size (And.intro HS8.out.size HS9.out.size)))
      have RA9 := Aside0.mk (Kd.R_below RA.out HG9.out)
      have RB9 := Aside0.mk (Kd.R_below RB.out HG9.out)
      have RK9 := Aside0.mk (Kd.R_below RK.out HG9.out)
      have RO9 := Aside0.mk (Kd.R_below RO.out HG9.out)
      have HP9 := Aside0.mk ((((HI6.out.to (P' := fun k => w5.heap.size ≤ k ∧ k < w6.heap.size) (fun k hp hk => ⟨hp, hk⟩)).below HS7.out).below HS8.out).below HS9.out)
      have HQ9 := Aside0.mk ((HIN.out.below HS8.out).below HS9.out)
      have II9 := Aside0.mk (Kd.R_lower (Kd.R_below HI8.out HS9.out) (below_size HB7.out))
      have MM9 := Aside0.mk (Kd.R_mono (Kd.R_bound HM9.out) (fun k hk => hk.2.1))
      have OI := Aside0.mk (Kd.R_base HI8.out)
      have OM := Aside0.mk (Kd.R_base HM9.out)
      have OIL := Aside0.mk (Kd.R_lt HI8.out)
      have OAL := Aside0.mk RA.out.1
      have HBZ := Aside0.mk (below_size HB8.out)
      clear HI8 HM9 RA RB RK RO HI6 HS6 HS7 HS8 HS9 HG9 HB5 HB6 HB7 HB8 HME HIV HIN
      go_wp2_with fail
      go_loopg [20] il.length (fun kq v20 w' => ∃ (i : Nat) (ls : List Ed), v20 = .int .i64 (i : Int) ∧ Aside0 (i + kq = il.length) ∧ Aside0 (ls.length = il.length) ∧ Aside0 (Kd.R k47 47 w' W.heap.size (fun _ => True) (.slice Ai il.length ci) ls) ∧ Aside0 (Below W.heap.size W w') ∧ Aside0 (Kept w9 w' (fun k => some k = (Value.slice Ai il.length ci).ownBlock)))
      case atStart => exact ⟨0, il, rfl, ⟨by omega⟩, ⟨rfl⟩, II9, HB9, ⟨Kept.refl _ _⟩⟩
      case round =>
        obtain ⟨i, ls, rfl, HK, HLL, HR, HBr, HKp⟩ := hrel
        by_cases hlt : i < il.length
        · have hd1 : decide ((i : Int) < (il.length : Int)) = true := decide_eq_true (by omega)
          have hmx : ls.length ≤ 9223372036854775807 := (Kd.R_reads' HR.out).2.2.2.1
          have HLM := Aside0.mk (show i < 9223372036854775807 by have := HLL.out; omega)
          obtain ⟨g, cap, hv, hbg, hgl, _⟩ := Kd.R_form HR.out (by have := HLL.out; omega)
          rw [HLL.out] at hv
          injection hv with hv1 _ hv2
          subst hv1 hv2
          obtain ⟨c, hcl, _, hcc2, _⟩ := Kd.R_elem HR.out (⟨0, 0, ⟨#[]⟩⟩ : Ed) (i : Int) (by omega) (by omega)
          have HCC := Aside0.mk hcc2
          have HCL := Aside0.mk hcl
          clear hcc2 hcl hmx hbg hgl
          cases gk with
          | zero => exact absurd hlt (by have := HK.out; omega)
          | succ kq' =>
          go_wp2_with (first | (refine Kd.R_store k47 (w0 := W) W.heap.size rfl rfl 47 (.tmp 78) (.tmp 77) rfl 47 (g := g) (i : Int) 0 ls ⟨7, 0, ⟨#[]⟩⟩ (.agg #[.int .i64 7, .int .i64 0, .string ⟨#[]⟩]) [.int .i64 7, .int .i64 0, .string ⟨#[]⟩] c (fun _ => True) (fun _ => False) rfl rfl rfl rfl (by kernel_rfl) (one3 7) HR.out (by omega) (by omega) HCL.out HCC.out (show 3 ≤ 3 from Nat.le_refl 3) (by rw [List.take_zero, List.nil_append, List.drop_of_length_le (by rw [HCL.out]; decide), List.append_nil]; exact k47_mkM _ _ _ ⟨7, 0, ⟨#[]⟩⟩) (fun k hk => hk.elim) HBr.out ?_; intro wS hR6 hb6 hg6; have HR6 := Aside0.mk hR6; have HB6_ := Aside0.mk hb6; have HK6 := Aside0.mk (Kept.of_grown hg6 HKp.out (fun k e => .inl e.symm)); clear hR6 hb6 hg6))
          go_roundg kq'
          case measure => omega
          case rel => exact ⟨i + 1, _, congrArg (Value.int .i64) (by have := HLM.out; first | (rw [w64 (by omega) (by omega)]; omega) | (rw [i64_w, w64 (by omega) (by omega)]; omega)), ⟨by have := HK.out; omega⟩, ⟨(List.length_set ..).trans HLL.out⟩, HR6, HB6_, HK6⟩
        · have hd1 : decide ((i : Int) < (il.length : Int)) = false := decide_eq_false (by omega)
          clear HK HLL HR
          obtain ⟨wa_, hwa_⟩ : ∃ x, x = wr := ⟨_, rfl⟩
          subst hwa_
          have KI := HKp
          have HBa := HBr
          clear HKp HBr II9 HB9
          have MM10 := Aside0.mk (Kd.R_lower (Kd.R_mono (ok' := fun _ => True) (Kd.R_kept MM9.out KI.out (fun k hk e => by have := OIL.out k e.symm; omega)) (fun _ _ => trivial)) HBZ.out)
          go_wp2_with fail
          go_loopg [21] ml.length (fun kq v21 w' => ∃ (i : Nat) (ls : List Ed), v21 = .int .i64 (i : Int) ∧ Aside0 (i + kq = ml.length) ∧ Aside0 (ls.length = ml.length) ∧ Aside0 (Kd.R k47 47 w' W.heap.size (fun _ => True) (.slice Am ml.length cm) ls) ∧ Aside0 (Below W.heap.size W w') ∧ Aside0 (Kept wa_ w' (fun k => some k = (Value.slice Am ml.length cm).ownBlock)))
          case atStart => exact ⟨0, ml, rfl, ⟨by omega⟩, ⟨rfl⟩, MM10, HBa, ⟨Kept.refl _ _⟩⟩
          case round =>
            obtain ⟨i, ls, rfl, HK, HLL, HR, HBr, HKp⟩ := hrel
            by_cases hlt : i < ml.length
            · have hd1 : decide ((i : Int) < (ml.length : Int)) = true := decide_eq_true (by omega)
              have hmx : ls.length ≤ 9223372036854775807 := (Kd.R_reads' HR.out).2.2.2.1
              have HLM := Aside0.mk (show i < 9223372036854775807 by have := HLL.out; omega)
              obtain ⟨g, cap, hv, hbg, hgl, _⟩ := Kd.R_form HR.out (by have := HLL.out; omega)
              rw [HLL.out] at hv
              injection hv with hv1 _ hv2
              subst hv1 hv2
              obtain ⟨c, hcl, _, hcc2, _⟩ := Kd.R_elem HR.out (⟨0, 0, ⟨#[]⟩⟩ : Ed) (i : Int) (by omega) (by omega)
              have HCC := Aside0.mk hcc2
              have HCL := Aside0.mk hcl
              clear hcc2 hcl hmx hbg hgl
              cases gk with
              | zero => exact absurd hlt (by have := HK.out; omega)
              | succ kq' =>
              go_wp2_with (first | (refine Kd.R_store k47 (w0 := W) W.heap.size rfl rfl 47 (.tmp 88) (.tmp 87) rfl 47 (g := g) (i : Int) 0 ls ⟨7, 0, ⟨#[]⟩⟩ (.agg #[.int .i64 7, .int .i64 0, .string ⟨#[]⟩]) [.int .i64 7, .int .i64 0, .string ⟨#[]⟩] c (fun _ => True) (fun _ => False) rfl rfl rfl rfl (by kernel_rfl) (one3 7) HR.out (by omega) (by omega) HCL.out HCC.out (show 3 ≤ 3 from Nat.le_refl 3) (by rw [List.take_zero, List.nil_append, List.drop_of_length_le (by rw [HCL.out]; decide), List.append_nil]; exact k47_mkM _ _ _ ⟨7, 0, ⟨#[]⟩⟩) (fun k hk => hk.elim) HBr.out ?_; intro wS hR6 hb6 hg6; have HR6 := Aside0.mk hR6; have HB6_ := Aside0.mk hb6; have HK6 := Aside0.mk (Kept.of_grown hg6 HKp.out (fun k e => .inl e.symm)); clear hR6 hb6 hg6))
              go_roundg kq'
              case measure => omega
              case rel => exact ⟨i + 1, _, congrArg (Value.int .i64) (by have := HLM.out; first | (rw [w64 (by omega) (by omega)]; omega) | (rw [i64_w, w64 (by omega) (by omega)]; omega)), ⟨by have := HK.out; omega⟩, ⟨(List.length_set ..).trans HLL.out⟩, HR6, HB6_, HK6⟩
            · have hd1 : decide ((i : Int) < (ml.length : Int)) = false := decide_eq_false (by omega)
              clear HK HLL HR
              obtain ⟨wb_, hwb_⟩ : ∃ x, x = wr := ⟨_, rfl⟩
              subst hwb_
              have KM := HKp
              have HBb := HBr
              clear HKp HBr MM10 HBa MM9
              have hnI : ∀ k, k < w7.heap.size → ¬ some k = (Value.slice Ai il.length ci).ownBlock := fun k hk e => by have := OI.out k e.symm; omega
              have hnM : ∀ k, k < w7.heap.size → ¬ some k = (Value.slice Am ml.length cm).ownBlock := fun k hk e => by have := OM.out k e.symm; have := HNN.out; omega
              have h57 : w5.heap.size ≤ w7.heap.size := by have := HNN.out; omega
              have hN_ := HN.out
              have hNN_ := HNN.out
              have RAb := Aside0.mk (Kd.R_kept (Kd.R_kept RA9.out KI.out (fun k hk => hnI k (by omega))) KM.out (fun k hk => hnM k (by omega)))
              have RBb := Aside0.mk (Kd.R_kept (Kd.R_kept RB9.out KI.out (fun k hk => hnI k (by omega))) KM.out (fun k hk => hnM k (by omega)))
              have RKb := Aside0.mk (Kd.R_kept (Kd.R_kept RK9.out KI.out (fun k hk => hnI k (by omega))) KM.out (fun k hk => hnM k (by omega)))
              have ROb := Aside0.mk (Kd.R_kept (Kd.R_kept RO9.out KI.out (fun k hk => hnI k (by omega))) KM.out (fun k hk => hnM k (by omega)))
              have HPb := Aside0.mk (rope_kept (rope_kept HP9.out KI.out (fun k hk => hnI k (by omega))) KM.out (fun k hk => hnM k (by omega)))
              have HQb := Aside0.mk (rope_kept (rope_kept HQ9.out KI.out (fun k hk => hnI k (by omega))) KM.out (fun k hk => hnM k (by omega)))
              clear HQ9
              clear hnI hnM h57 hN_ hNN_ RA9 RB9 RK9 RO9 HP9 KI KM OI OM OIL
              go_wp2_with fail
              refine (marginaliaref01_Same.calls K7 _ _ t _ _ t _ _ (Kd.R_reads' RAb.out).2.2 (Kd.R_reads' RAb.out).2.1 (Kd.R_reads' RKb.out).2.2 (Kd.R_reads' RKb.out).2.1 HSM.out.1).mono ?_
              rintro e wc_ ⟨rfl, hdc⟩
              have HSc := Aside0.mk (Kx.Drawn0.below hdc)
              clear hdc
              go_wp2_with fail
              refine (marginaliaref01_Same.calls K8 _ _ u _ _ u _ _ (Kd.C_below (Kd.R_reads' RBb.out).2.2 HSc.out) (Kd.R_reads' RBb.out).2.1 (Kd.C_below (Kd.R_reads' ROb.out).2.2 HSc.out) (Kd.R_reads' ROb.out).2.1 HSM.out.2).mono ?_
              rintro e wd_ ⟨rfl, hdd⟩
              have HSd := Aside0.mk (Kx.below_step HSc.out (Kx.Drawn0.below hdd))
              have HBd := Aside0.mk (Kx.below_step HBb.out HSd.out)
              clear hdd HSc
              have RAd := Aside0.mk (Kd.R_lower (Kd.R_mono (ok' := fun _ => True) (Kd.R_below RAb.out HSd.out) (fun _ _ => trivial)) (below_size HB1z.out))
              have RKd := Aside0.mk (Kd.R_below RKb.out HSd.out)
              have ROd := Aside0.mk (Kd.R_below ROb.out HSd.out)
              have HPd := Aside0.mk (HPb.out.below HSd.out)
              have HQd := Aside0.mk (HQb.out.below HSd.out)
              clear HQb
              clear RAb RBb RKb ROb HPb HSd HBb
              go_wp2_with fail
              go_loopg [22] t.length (fun kq v22 w' => ∃ (i : Nat) (ls : List Ed), v22 = .int .i64 (i : Int) ∧ Aside0 (i + kq = t.length) ∧ Aside0 (ls.length = t.length) ∧ Aside0 (Kd.R k47 47 w' W.heap.size (fun _ => True) (.slice A1_ t.length c1_) ls) ∧ Aside0 (Below W.heap.size W w') ∧ Aside0 (Kept wd_ w' (fun k => some k = (Value.slice A1_ t.length c1_).ownBlock)))
              case atStart => exact ⟨0, t, rfl, ⟨by omega⟩, ⟨rfl⟩, RAd, HBd, ⟨Kept.refl _ _⟩⟩
              case round =>
                obtain ⟨i, ls, rfl, HK, HLL, HR, HBr, HKp⟩ := hrel
                by_cases hlt : i < t.length
                · have hd1 : decide ((i : Int) < (t.length : Int)) = true := decide_eq_true (by omega)
                  have hmx : ls.length ≤ 9223372036854775807 := (Kd.R_reads' HR.out).2.2.2.1
                  have HLM := Aside0.mk (show i < 9223372036854775807 by have := HLL.out; omega)
                  obtain ⟨g, cap, hv, hbg, hgl, _⟩ := Kd.R_form HR.out (by have := HLL.out; omega)
                  rw [HLL.out] at hv
                  injection hv with hv1 _ hv2
                  subst hv1 hv2
                  obtain ⟨c, hcl, _, hcc2, _⟩ := Kd.R_elem HR.out (⟨0, 0, ⟨#[]⟩⟩ : Ed) (i : Int) (by omega) (by omega)
                  have HCC := Aside0.mk hcc2
                  have HCL := Aside0.mk hcl
                  clear hcc2 hcl hmx hbg hgl
                  cases gk with
                  | zero => exact absurd hlt (by have := HK.out; omega)
                  | succ kq' =>
                  go_wp2_with (first | (refine Kd.R_store k47 (w0 := W) W.heap.size rfl rfl 47 (.tmp 108) (.tmp 107) rfl 47 (g := g) (i : Int) 0 ls ⟨9, 0, ⟨#[]⟩⟩ (.agg #[.int .i64 9, .int .i64 0, .string ⟨#[]⟩]) [.int .i64 9, .int .i64 0, .string ⟨#[]⟩] c (fun _ => True) (fun _ => False) rfl rfl rfl rfl (by kernel_rfl) (one3 9) HR.out (by omega) (by omega) HCL.out HCC.out (show 3 ≤ 3 from Nat.le_refl 3) (by rw [List.take_zero, List.nil_append, List.drop_of_length_le (by rw [HCL.out]; decide), List.append_nil]; exact k47_mkM _ _ _ ⟨9, 0, ⟨#[]⟩⟩) (fun k hk => hk.elim) HBr.out ?_; intro wS hR6 hb6 hg6; have HR6 := Aside0.mk hR6; have HB6_ := Aside0.mk hb6; have HK6 := Aside0.mk (Kept.of_grown hg6 HKp.out (fun k e => .inl e.symm)); clear hR6 hb6 hg6))
                  go_roundg kq'
                  case measure => omega
                  case rel => exact ⟨i + 1, _, congrArg (Value.int .i64) (by have := HLM.out; first | (rw [w64 (by omega) (by omega)]; omega) | (rw [i64_w, w64 (by omega) (by omega)]; omega)), ⟨by have := HK.out; omega⟩, ⟨(List.length_set ..).trans HLL.out⟩, HR6, HB6_, HK6⟩
                · have hd1 : decide ((i : Int) < (t.length : Int)) = false := decide_eq_false (by omega)
                  clear HK HLL HR
                  obtain ⟨we_, hwe_⟩ : ∃ x, x = wr := ⟨_, rfl⟩
                  subst hwe_
                  have hnA : ∀ k, w2.heap.size ≤ k → ¬ some k = (Value.slice A1_ t.length c1_).ownBlock := fun k hk e => by have := OAL.out k e.symm; omega
                  have hN_ := HN.out
                  have RKe := Aside0.mk (Kd.R_kept RKd.out HKp.out (fun k hk => hnA k (by omega)))
                  have ROe := Aside0.mk (Kd.R_kept ROd.out HKp.out (fun k hk => hnA k (by omega)))
                  have HPe := Aside0.mk (rope_kept HPd.out HKp.out (fun k hk => hnA k (by omega)))
                  have hNN_ := HNN.out
                  have HQe := Aside0.mk (rope_kept HQd.out HKp.out (fun k hk => hnA k (by omega)))
                  clear HQd hNN_
                  have HBe := HBr
                  clear hnA hN_ RKd ROd HPd RAd HKp HBr HBd
                  have htz : Rope.tot (Rope.one s) ≤ 140737488355328 := by have := HSS.out; rw [tot_one]; omega
                  have htt : (⟨(Rope.txt (Rope.Rp.base (Rope.one s)).ps).toArray⟩ : ByteArray) = s := (congrArg ba (txt_one s)).trans (list_ba s)
                  have HTZ := Aside0.mk htz
                  have HTT := Aside0.mk htt
                  clear htz htt
                  have htx : (⟨(Rope.txt (Rope.Rp.step (Rope.editP (Rope.one s) (Rope.tot (Rope.one s)) 0 t) (Rope.Rp.base (Rope.one s))).ps).toArray⟩ : ByteArray) = ba (app s 0 t) := by
                    obtain ⟨o1, o2, o3, o4⟩ := chk_ok HKK.out
                    show ba (Rope.txt (Rope.editP (Rope.one s) (Rope.tot (Rope.one s)) 0 t)) = _
                    rw [txt_editP _ _ _ (by rw [tot_one]; exact o3) (by omega), txt_one, list_ba]
                  have HTX := Aside0.mk htx
                  have hnz : Rope.tot (Rope.Rp.step (Rope.editP (Rope.one s) (Rope.tot (Rope.one s)) 0 t) (Rope.Rp.base (Rope.one s))).ps ≤ 140737488355328 := Nat.le_trans HTE.out (by decide)
                  have HNZ := Aside0.mk hnz
                  obtain ⟨K9, hK9⟩ := rapply_ev s t HKK.out
                  have HRAP := Aside0.mk (hK9 K9 (Nat.le_refl _))
                  have hie0 := HIE.out HKK.out
                  subst hie0
                  clear htx hnz hK9
                  generalize app s 0 t = ap at *
                  go_wp2_with fail
                  refine (Rope.Text_ok _ _ _ HQe.out.is HNZ.out).mono ?_
                  rintro e wf_ ⟨rfl, hbf⟩
                  rw [HTX.out]
                  have HSf := Aside0.mk hbf
                  have HBf := Aside0.mk (Kx.below_step HBe.out hbf)
                  clear hbf
                  go_wp2_with fail
                  refine (marginaliaref01_Apply.calls K9 s _ _ t _ _ (Kd.C_below (Kd.R_reads' RKe.out).2.2 HSf.out) (Kd.R_reads' RKe.out).2.1 HRAP.out).mono ?_
                  rintro e wg_ ⟨rfl, hdg⟩
                  have HSg := Aside0.mk (Kx.below_step HSf.out (Kx.Drawn0.below hdg))
                  have HBg := Aside0.mk (Kx.below_step HBe.out HSg.out)
                  clear hdg HSf HBf
                  go_wp2_with fail
                  refine (Rope.Text_ok _ _ _ (HPe.out.below HSg.out).is HTZ.out).mono ?_
                  rintro e wh_ ⟨rfl, hbh⟩
                  rw [HTT.out]
                  have HBh := Aside0.mk (Kx.below_step HBg.out hbh)
                  clear hbh
                  by_cases hm0 : me = 0
                  · subst hm0
                    go_wp2_with fail
                    refine (marginalialaw01_alive.calls true _ rfl).mono ?_
                    rintro e wi_ ⟨rfl, hbi⟩
                    have HBi := Aside0.mk (Kx.below_step HBh.out hbi)
                    clear hbi
                    go_wp2_with fail
                    go_ret
                    exact ⟨rfl, HBi.out⟩
                  · have hmb : (me == 0) = false := beq_eq_false_iff_ne.mpr hm0
                    have hlen : decide (wrap64 ((t.length : Int) + (u.length : Int)) > 0) = true := by
                      rcases HMZ.out with h | h | h
                      · exact absurd h hm0
                      · exact absurd HKK.out h
                      · have := HZ.out
                        rw [w64 (by omega) (by omega)]
                        exact decide_eq_true (by omega)
                    have hlen2 : decide (0 < wrap64 ((t.length : Int) + (u.length : Int))) = true := hlen
                    clear hm0
                    go_wp2_with fail
                    refine (marginalialaw01_alive.calls true _ rfl).mono ?_
                    rintro e wi_ ⟨rfl, hbi⟩
                    have HBi := Aside0.mk (Kx.below_step HBh.out hbi)
                    clear hbi
                    go_wp2_with fail
                    go_ret
                    exact ⟨rfl, HBi.out⟩
    · have HKK := Aside0.mk hk
      clear hk
      go_wp2_with fail
      refine (Rope.Edit_err _ _ _ _ t _ HI6.out.is (by have := HSS.out; show Rope.tot (Rope.one s) ≤ _; rw [tot_one]; omega) HF.out.1 (Kd.C_below (Kd.R_reads' RA.out).2.2 HS6.out) (Kd.R_reads' RA.out).2.1 (by show ¬ chk (Rope.tot (Rope.one s)) t = 0; rw [tot_one]; exact HKK.out)).mono ?_
      rintro e w7 ⟨rfl, hb7⟩
      rw [show chk (Rope.tot (Rope.Rp.base (Rope.one s)).ps) t = chk s.size t by rw [show (Rope.Rp.base (Rope.one s)).ps = Rope.one s from rfl, tot_one]]
      have HS7 := Aside0.mk hb7
      have HB7 := Aside0.mk (Kx.below_step HB6.out hb7)
      clear hb7
      go_wp2_with fail
      refine (rope_Invert.calls K6 s _ _ t _ _ _ (Kd.C_below (Kd.C_below (Kd.R_reads' RA.out).2.2 HS6.out) HS7.out) (Kd.R_reads' RA.out).2.1 HIV.out).mono ?_
      rintro e w8 ⟨v8, rfl, hv8, hb8⟩
      obtain ⟨Ai, ci, ei⟩ := Kd.R_slice hv8
      subst ei
      have HI8 := Aside0.mk hv8
      have HB8 := Aside0.mk (Kx.below_step HB7.out hb8)
      have HS8 := Aside0.mk hb8
      clear hv8 hb8
      go_wp2_with fail
      refine (rope_Merge.calls K5 s _ _ t _ _ u _ _ _ (Kd.C_below (Kd.C_below (Kd.C_below (Kd.R_reads' RA.out).2.2 HS6.out) HS7.out) HS8.out) (Kd.R_reads' RA.out).2.1 (Kd.C_below (Kd.C_below (Kd.C_below (Kd.R_reads' RB.out).2.2 HS6.out) HS7.out) HS8.out) (Kd.R_reads' RB.out).2.1 HME.out).mono ?_
      rintro e w9 ⟨v9, rfl, hv9, hb9⟩
      obtain ⟨Am, cm, em⟩ := Kd.R_slice hv9
      subst em
      have HM9 := Aside0.mk hv9
      have HB9 := Aside0.mk (Kx.below_step HB8.out hb9)
      have HS9 := Aside0.mk hb9
      clear hv9 hb9
      have HG9 := Aside0.mk (Kx.below_step (Kx.below_step (Kx.below_step HS6.out HS7.out) HS8.out) HS9.out)
      have HNN := Aside0.mk (And.intro HS6.out.size (And.intro HS7.out.size (And.intro HS8.out.size HS9.out.size)))
      have RA9 := Aside0.mk (Kd.R_below RA.out HG9.out)
      have RB9 := Aside0.mk (Kd.R_below RB.out HG9.out)
      have RK9 := Aside0.mk (Kd.R_below RK.out HG9.out)
      have RO9 := Aside0.mk (Kd.R_below RO.out HG9.out)
      have HP9 := Aside0.mk ((((HI6.out.to (P' := fun k => w5.heap.size ≤ k ∧ k < w6.heap.size) (fun k hp hk => ⟨hp, hk⟩)).below HS7.out).below HS8.out).below HS9.out)
      have II9 := Aside0.mk (Kd.R_lower (Kd.R_below HI8.out HS9.out) (below_size HB7.out))
      have MM9 := Aside0.mk (Kd.R_mono (Kd.R_bound HM9.out) (fun k hk => hk.2.1))
      have OI := Aside0.mk (Kd.R_base HI8.out)
      have OM := Aside0.mk (Kd.R_base HM9.out)
      have OIL := Aside0.mk (Kd.R_lt HI8.out)
      have OAL := Aside0.mk RA.out.1
      have HBZ := Aside0.mk (below_size HB8.out)
      clear HI8 HM9 RA RB RK RO HI6 HS6 HS7 HS8 HS9 HG9 HB5 HB6 HB7 HB8 HME HIV
      go_wp2_with fail
      go_loopg [20] il.length (fun kq v20 w' => ∃ (i : Nat) (ls : List Ed), v20 = .int .i64 (i : Int) ∧ Aside0 (i + kq = il.length) ∧ Aside0 (ls.length = il.length) ∧ Aside0 (Kd.R k47 47 w' W.heap.size (fun _ => True) (.slice Ai il.length ci) ls) ∧ Aside0 (Below W.heap.size W w') ∧ Aside0 (Kept w9 w' (fun k => some k = (Value.slice Ai il.length ci).ownBlock)))
      case atStart => exact ⟨0, il, rfl, ⟨by omega⟩, ⟨rfl⟩, II9, HB9, ⟨Kept.refl _ _⟩⟩
      case round =>
        obtain ⟨i, ls, rfl, HK, HLL, HR, HBr, HKp⟩ := hrel
        by_cases hlt : i < il.length
        · have hd1 : decide ((i : Int) < (il.length : Int)) = true := decide_eq_true (by omega)
          have hmx : ls.length ≤ 9223372036854775807 := (Kd.R_reads' HR.out).2.2.2.1
          have HLM := Aside0.mk (show i < 9223372036854775807 by have := HLL.out; omega)
          obtain ⟨g, cap, hv, hbg, hgl, _⟩ := Kd.R_form HR.out (by have := HLL.out; omega)
          rw [HLL.out] at hv
          injection hv with hv1 _ hv2
          subst hv1 hv2
          obtain ⟨c, hcl, _, hcc2, _⟩ := Kd.R_elem HR.out (⟨0, 0, ⟨#[]⟩⟩ : Ed) (i : Int) (by omega) (by omega)
          have HCC := Aside0.mk hcc2
          have HCL := Aside0.mk hcl
          clear hcc2 hcl hmx hbg hgl
          cases gk with
          | zero => exact absurd hlt (by have := HK.out; omega)
          | succ kq' =>
          go_wp2_with (first | (refine Kd.R_store k47 (w0 := W) W.heap.size rfl rfl 47 (.tmp 78) (.tmp 77) rfl 47 (g := g) (i : Int) 0 ls ⟨7, 0, ⟨#[]⟩⟩ (.agg #[.int .i64 7, .int .i64 0, .string ⟨#[]⟩]) [.int .i64 7, .int .i64 0, .string ⟨#[]⟩] c (fun _ => True) (fun _ => False) rfl rfl rfl rfl (by kernel_rfl) (one3 7) HR.out (by omega) (by omega) HCL.out HCC.out (show 3 ≤ 3 from Nat.le_refl 3) (by rw [List.take_zero, List.nil_append, List.drop_of_length_le (by rw [HCL.out]; decide), List.append_nil]; exact k47_mkM _ _ _ ⟨7, 0, ⟨#[]⟩⟩) (fun k hk => hk.elim) HBr.out ?_; intro wS hR6 hb6 hg6; have HR6 := Aside0.mk hR6; have HB6_ := Aside0.mk hb6; have HK6 := Aside0.mk (Kept.of_grown hg6 HKp.out (fun k e => .inl e.symm)); clear hR6 hb6 hg6))
          go_roundg kq'
          case measure => omega
          case rel => exact ⟨i + 1, _, congrArg (Value.int .i64) (by have := HLM.out; first | (rw [w64 (by omega) (by omega)]; omega) | (rw [i64_w, w64 (by omega) (by omega)]; omega)), ⟨by have := HK.out; omega⟩, ⟨(List.length_set ..).trans HLL.out⟩, HR6, HB6_, HK6⟩
        · have hd1 : decide ((i : Int) < (il.length : Int)) = false := decide_eq_false (by omega)
          clear HK HLL HR
          obtain ⟨wa_, hwa_⟩ : ∃ x, x = wr := ⟨_, rfl⟩
          subst hwa_
          have KI := HKp
          have HBa := HBr
          clear HKp HBr II9 HB9
          have MM10 := Aside0.mk (Kd.R_lower (Kd.R_mono (ok' := fun _ => True) (Kd.R_kept MM9.out KI.out (fun k hk e => by have := OIL.out k e.symm; omega)) (fun _ _ => trivial)) HBZ.out)
          go_wp2_with fail
          go_loopg [21] ml.length (fun kq v21 w' => ∃ (i : Nat) (ls : List Ed), v21 = .int .i64 (i : Int) ∧ Aside0 (i + kq = ml.length) ∧ Aside0 (ls.length = ml.length) ∧ Aside0 (Kd.R k47 47 w' W.heap.size (fun _ => True) (.slice Am ml.length cm) ls) ∧ Aside0 (Below W.heap.size W w') ∧ Aside0 (Kept wa_ w' (fun k => some k = (Value.slice Am ml.length cm).ownBlock)))
          case atStart => exact ⟨0, ml, rfl, ⟨by omega⟩, ⟨rfl⟩, MM10, HBa, ⟨Kept.refl _ _⟩⟩
          case round =>
            obtain ⟨i, ls, rfl, HK, HLL, HR, HBr, HKp⟩ := hrel
            by_cases hlt : i < ml.length
            · have hd1 : decide ((i : Int) < (ml.length : Int)) = true := decide_eq_true (by omega)
              have hmx : ls.length ≤ 9223372036854775807 := (Kd.R_reads' HR.out).2.2.2.1
              have HLM := Aside0.mk (show i < 9223372036854775807 by have := HLL.out; omega)
              obtain ⟨g, cap, hv, hbg, hgl, _⟩ := Kd.R_form HR.out (by have := HLL.out; omega)
              rw [HLL.out] at hv
              injection hv with hv1 _ hv2
              subst hv1 hv2
              obtain ⟨c, hcl, _, hcc2, _⟩ := Kd.R_elem HR.out (⟨0, 0, ⟨#[]⟩⟩ : Ed) (i : Int) (by omega) (by omega)
              have HCC := Aside0.mk hcc2
              have HCL := Aside0.mk hcl
              clear hcc2 hcl hmx hbg hgl
              cases gk with
              | zero => exact absurd hlt (by have := HK.out; omega)
              | succ kq' =>
              go_wp2_with (first | (refine Kd.R_store k47 (w0 := W) W.heap.size rfl rfl 47 (.tmp 88) (.tmp 87) rfl 47 (g := g) (i : Int) 0 ls ⟨7, 0, ⟨#[]⟩⟩ (.agg #[.int .i64 7, .int .i64 0, .string ⟨#[]⟩]) [.int .i64 7, .int .i64 0, .string ⟨#[]⟩] c (fun _ => True) (fun _ => False) rfl rfl rfl rfl (by kernel_rfl) (one3 7) HR.out (by omega) (by omega) HCL.out HCC.out (show 3 ≤ 3 from Nat.le_refl 3) (by rw [List.take_zero, List.nil_append, List.drop_of_length_le (by rw [HCL.out]; decide), List.append_nil]; exact k47_mkM _ _ _ ⟨7, 0, ⟨#[]⟩⟩) (fun k hk => hk.elim) HBr.out ?_; intro wS hR6 hb6 hg6; have HR6 := Aside0.mk hR6; have HB6_ := Aside0.mk hb6; have HK6 := Aside0.mk (Kept.of_grown hg6 HKp.out (fun k e => .inl e.symm)); clear hR6 hb6 hg6))
              go_roundg kq'
              case measure => omega
              case rel => exact ⟨i + 1, _, congrArg (Value.int .i64) (by have := HLM.out; first | (rw [w64 (by omega) (by omega)]; omega) | (rw [i64_w, w64 (by omega) (by omega)]; omega)), ⟨by have := HK.out; omega⟩, ⟨(List.length_set ..).trans HLL.out⟩, HR6, HB6_, HK6⟩
            · have hd1 : decide ((i : Int) < (ml.length : Int)) = false := decide_eq_false (by omega)
              clear HK HLL HR
              obtain ⟨wb_, hwb_⟩ : ∃ x, x = wr := ⟨_, rfl⟩
              subst hwb_
              have KM := HKp
              have HBb := HBr
              clear HKp HBr MM10 HBa MM9
              have hnI : ∀ k, k < w7.heap.size → ¬ some k = (Value.slice Ai il.length ci).ownBlock := fun k hk e => by have := OI.out k e.symm; omega
              have hnM : ∀ k, k < w7.heap.size → ¬ some k = (Value.slice Am ml.length cm).ownBlock := fun k hk e => by have := OM.out k e.symm; have := HNN.out; omega
              have h57 : w5.heap.size ≤ w7.heap.size := by have := HNN.out; omega
              have hN_ := HN.out
              have hNN_ := HNN.out
              have RAb := Aside0.mk (Kd.R_kept (Kd.R_kept RA9.out KI.out (fun k hk => hnI k (by omega))) KM.out (fun k hk => hnM k (by omega)))
              have RBb := Aside0.mk (Kd.R_kept (Kd.R_kept RB9.out KI.out (fun k hk => hnI k (by omega))) KM.out (fun k hk => hnM k (by omega)))
              have RKb := Aside0.mk (Kd.R_kept (Kd.R_kept RK9.out KI.out (fun k hk => hnI k (by omega))) KM.out (fun k hk => hnM k (by omega)))
              have ROb := Aside0.mk (Kd.R_kept (Kd.R_kept RO9.out KI.out (fun k hk => hnI k (by omega))) KM.out (fun k hk => hnM k (by omega)))
              have HPb := Aside0.mk (rope_kept (rope_kept HP9.out KI.out (fun k hk => hnI k (by omega))) KM.out (fun k hk => hnM k (by omega)))
              clear hnI hnM h57 hN_ hNN_ RA9 RB9 RK9 RO9 HP9 KI KM OI OM OIL
              go_wp2_with fail
              refine (marginaliaref01_Same.calls K7 _ _ t _ _ t _ _ (Kd.R_reads' RAb.out).2.2 (Kd.R_reads' RAb.out).2.1 (Kd.R_reads' RKb.out).2.2 (Kd.R_reads' RKb.out).2.1 HSM.out.1).mono ?_
              rintro e wc_ ⟨rfl, hdc⟩
              have HSc := Aside0.mk (Kx.Drawn0.below hdc)
              clear hdc
              go_wp2_with fail
              refine (marginaliaref01_Same.calls K8 _ _ u _ _ u _ _ (Kd.C_below (Kd.R_reads' RBb.out).2.2 HSc.out) (Kd.R_reads' RBb.out).2.1 (Kd.C_below (Kd.R_reads' ROb.out).2.2 HSc.out) (Kd.R_reads' ROb.out).2.1 HSM.out.2).mono ?_
              rintro e wd_ ⟨rfl, hdd⟩
              have HSd := Aside0.mk (Kx.below_step HSc.out (Kx.Drawn0.below hdd))
              have HBd := Aside0.mk (Kx.below_step HBb.out HSd.out)
              clear hdd HSc
              have RAd := Aside0.mk (Kd.R_lower (Kd.R_mono (ok' := fun _ => True) (Kd.R_below RAb.out HSd.out) (fun _ _ => trivial)) (below_size HB1z.out))
              have RKd := Aside0.mk (Kd.R_below RKb.out HSd.out)
              have ROd := Aside0.mk (Kd.R_below ROb.out HSd.out)
              have HPd := Aside0.mk (HPb.out.below HSd.out)
              clear RAb RBb RKb ROb HPb HSd HBb
              go_wp2_with fail
              go_loopg [22] t.length (fun kq v22 w' => ∃ (i : Nat) (ls : List Ed), v22 = .int .i64 (i : Int) ∧ Aside0 (i + kq = t.length) ∧ Aside0 (ls.length = t.length) ∧ Aside0 (Kd.R k47 47 w' W.heap.size (fun _ => True) (.slice A1_ t.length c1_) ls) ∧ Aside0 (Below W.heap.size W w') ∧ Aside0 (Kept wd_ w' (fun k => some k = (Value.slice A1_ t.length c1_).ownBlock)))
              case atStart => exact ⟨0, t, rfl, ⟨by omega⟩, ⟨rfl⟩, RAd, HBd, ⟨Kept.refl _ _⟩⟩
              case round =>
                obtain ⟨i, ls, rfl, HK, HLL, HR, HBr, HKp⟩ := hrel
                by_cases hlt : i < t.length
                · have hd1 : decide ((i : Int) < (t.length : Int)) = true := decide_eq_true (by omega)
                  have hmx : ls.length ≤ 9223372036854775807 := (Kd.R_reads' HR.out).2.2.2.1
                  have HLM := Aside0.mk (show i < 9223372036854775807 by have := HLL.out; omega)
                  obtain ⟨g, cap, hv, hbg, hgl, _⟩ := Kd.R_form HR.out (by have := HLL.out; omega)
                  rw [HLL.out] at hv
                  injection hv with hv1 _ hv2
                  subst hv1 hv2
                  obtain ⟨c, hcl, _, hcc2, _⟩ := Kd.R_elem HR.out (⟨0, 0, ⟨#[]⟩⟩ : Ed) (i : Int) (by omega) (by omega)
                  have HCC := Aside0.mk hcc2
                  have HCL := Aside0.mk hcl
                  clear hcc2 hcl hmx hbg hgl
                  cases gk with
                  | zero => exact absurd hlt (by have := HK.out; omega)
                  | succ kq' =>
                  go_wp2_with (first | (refine Kd.R_store k47 (w0 := W) W.heap.size rfl rfl 47 (.tmp 108) (.tmp 107) rfl 47 (g := g) (i : Int) 0 ls ⟨9, 0, ⟨#[]⟩⟩ (.agg #[.int .i64 9, .int .i64 0, .string ⟨#[]⟩]) [.int .i64 9, .int .i64 0, .string ⟨#[]⟩] c (fun _ => True) (fun _ => False) rfl rfl rfl rfl (by kernel_rfl) (one3 9) HR.out (by omega) (by omega) HCL.out HCC.out (show 3 ≤ 3 from Nat.le_refl 3) (by rw [List.take_zero, List.nil_append, List.drop_of_length_le (by rw [HCL.out]; decide), List.append_nil]; exact k47_mkM _ _ _ ⟨9, 0, ⟨#[]⟩⟩) (fun k hk => hk.elim) HBr.out ?_; intro wS hR6 hb6 hg6; have HR6 := Aside0.mk hR6; have HB6_ := Aside0.mk hb6; have HK6 := Aside0.mk (Kept.of_grown hg6 HKp.out (fun k e => .inl e.symm)); clear hR6 hb6 hg6))
                  go_roundg kq'
                  case measure => omega
                  case rel => exact ⟨i + 1, _, congrArg (Value.int .i64) (by have := HLM.out; first | (rw [w64 (by omega) (by omega)]; omega) | (rw [i64_w, w64 (by omega) (by omega)]; omega)), ⟨by have := HK.out; omega⟩, ⟨(List.length_set ..).trans HLL.out⟩, HR6, HB6_, HK6⟩
                · have hd1 : decide ((i : Int) < (t.length : Int)) = false := decide_eq_false (by omega)
                  clear HK HLL HR
                  obtain ⟨we_, hwe_⟩ : ∃ x, x = wr := ⟨_, rfl⟩
                  subst hwe_
                  have hnA : ∀ k, w2.heap.size ≤ k → ¬ some k = (Value.slice A1_ t.length c1_).ownBlock := fun k hk e => by have := OAL.out k e.symm; omega
                  have hN_ := HN.out
                  have RKe := Aside0.mk (Kd.R_kept RKd.out HKp.out (fun k hk => hnA k (by omega)))
                  have ROe := Aside0.mk (Kd.R_kept ROd.out HKp.out (fun k hk => hnA k (by omega)))
                  have HPe := Aside0.mk (rope_kept HPd.out HKp.out (fun k hk => hnA k (by omega)))
                  have HBe := HBr
                  clear hnA hN_ RKd ROd HPd RAd HKp HBr HBd
                  have htz : Rope.tot (Rope.one s) ≤ 140737488355328 := by have := HSS.out; rw [tot_one]; omega
                  have htt : (⟨(Rope.txt (Rope.Rp.base (Rope.one s)).ps).toArray⟩ : ByteArray) = s := (congrArg ba (txt_one s)).trans (list_ba s)
                  have HTZ := Aside0.mk htz
                  have HTT := Aside0.mk htt
                  clear htz htt
                  have HSg := Aside0.mk (Below.refl we_.heap.size we_)
                  have HBg := HBe
                  have hkb : (chk s.size t == 0) = false := beq_eq_false_iff_ne.mpr HKK.out
                  have hkn : (chk s.size t != 0) = true := bne_iff_ne.mpr HKK.out
                  go_wp2_with fail
                  refine (Rope.Text_ok _ _ _ (HPe.out.below HSg.out).is HTZ.out).mono ?_
                  rintro e wh_ ⟨rfl, hbh⟩
                  rw [HTT.out]
                  have HBh := Aside0.mk (Kx.below_step HBg.out hbh)
                  clear hbh
                  by_cases hm0 : me = 0
                  · subst hm0
                    go_wp2_with fail
                    refine (marginalialaw01_alive.calls true _ rfl).mono ?_
                    rintro e wi_ ⟨rfl, hbi⟩
                    have HBi := Aside0.mk (Kx.below_step HBh.out hbi)
                    clear hbi
                    go_wp2_with fail
                    go_ret
                    exact ⟨rfl, HBi.out⟩
                  · have hmb : (me == 0) = false := beq_eq_false_iff_ne.mpr hm0
                    clear hm0
                    go_wp2_with fail
                    refine (marginalialaw01_alive.calls true _ rfl).mono ?_
                    rintro e wi_ ⟨rfl, hbi⟩
                    have HBi := Aside0.mk (Kx.below_step HBh.out hbi)
                    clear hbi
                    go_wp2_with fail
                    go_ret
                    exact ⟨rfl, HBi.out⟩
  · have d0 : decide ((s.size : Int) > 20000) = true := decide_eq_true (by omega)
    have HSL := Aside0.mk (show 20000 < s.size by omega)
    clear hs
    go_wp2_with fail
    refine (Rope.New_long s _ HSL.out).mono ?_
    rintro e w6 ⟨rfl, rfl⟩
    go_wp2_with fail
    refine (marginalialaw01_alive.calls true _ rfl).mono ?_
    rintro e w7 ⟨rfl, hb7⟩
    go_wp2_with fail
    go_ret
    exact ⟨rfl, Kx.below_step HB5.out hb7⟩
end Go.Proofs.Ytfllpoonfhiipaa.Pure

