/- What the claim's row needs of the seat's texts, part 4: put together by a program of this session (declarations that no text of the claim names are left out). -/

import Derived.Test.YtnafnieocpkkhaaF3
set_option linter.unusedVariables false
set_option linter.unusedSimpArgs false
namespace Go.Proofs.Ytnafnieocpkkhaa.P
open Go Go.RowKit Go.Proofs.Ytnafnieocpkkhaa Go.Proofs.YtnafnieocpkkhaaW.PrintWords Go.Proofs.YtnafnieocpkkhaaW.PrintLast Go.Proofs.YtnafnieocpkkhaaW.PrintMore
theorem Nd.ext' {a b : Nd} (h0 : a.f0 = b.f0) (h1 : a.f1.f0 = b.f1.f0) (h2 : a.f1.f1 = b.f1.f1) (h3 : a.f2 = b.f2) : a = b := by
 obtain ⟨a0, ⟨a1, a2⟩, a3⟩ := a; obtain ⟨b0, ⟨b1, b2⟩, b3⟩ := b; simp only at h0 h1 h2 h3; subst h0 h1 h2 h3; rfl
theorem eqs_spec (m : Nat) : ∀ (l s : List Nd), (∀ x ∈ l, ∀ y, ∃ t, tree_Same.go m x y = some t ∧ (t = true ↔ x = y)) → l.length = s.length → ∃ t, tree_Same.eqs (tree_Same.go m) l s = some t ∧ (t = true ↔ l = s)
 | [], [], _, _ => ⟨true, rfl, by simp⟩
 | [], _ :: _, _, h => by simp at h
 | _ :: _, [], _, h => by simp at h
 | x :: r, y :: s, H, hl => by
  obtain ⟨t, h1, h2⟩ := H x (by simp) y; obtain ⟨u, h3, h4⟩ := eqs_spec m r s (fun z hz => H z (by simp [hz])) (by simpa using hl)
  cases t with
  | true =>
   refine ⟨u, by simp only [tree_Same.eqs, h1, Option.bind_some, if_true]; exact h3, ?_⟩; have := h2.1 rfl; rw [h4, this]
   simp
  | false =>
   refine ⟨false, by simp [tree_Same.eqs, h1], ?_⟩
   have h5 : ¬ x = y := fun e => by have := h2.2 e; cases this
   simp [h5]
theorem go_spec : ∀ (m : Nat) (a b : Nd), nd a ≤ m → ∃ t, tree_Same.go m a b = some t ∧ (t = true ↔ a = b)
 | 0, a, b, h => by have := nd_pos a; omega
 | m + 1, a, b, h => by
  have e := nd_eq a; simp only [tree_Same.go]; by_cases h0 : a.f0 = b.f0
  ·rw [if_pos h0]; by_cases h1 : (a.f1.f0 == b.f1.f0 && a.f1.f1.toList == b.f1.f1.toList) = true
   ·rw [if_pos h1]; simp only [Bool.and_eq_true, beq_iff_eq] at h1; by_cases h2 : a.f2.length = b.f2.length
    ·rw [if_pos h2]; obtain ⟨t, h3, h4⟩ := eqs_spec m a.f2 b.f2 (fun x hx y => go_spec m x y (by have := sum_mem (f := nd) hx; omega)) h2; refine ⟨t, h3, h4.trans ⟨fun e => Nd.ext' h0 h1.1 (bytes_toList h1.2) e, fun e => by rw [e]⟩⟩
    ·rw [if_neg h2]; exact ⟨false, rfl, by constructor <;> intro e; cases e; exact absurd (by rw [e]) h2⟩
   ·rw [if_neg h1]; exact ⟨false, rfl, by constructor <;> intro e; cases e; exact absurd (by rw [e]; simp) h1⟩
  ·rw [if_neg h0]; exact ⟨false, rfl, by constructor <;> intro e; cases e; exact absurd (by rw [e]) h0⟩
/-- The same? -/
def eqN (a b : Nd) : Bool := (tree_Same.go (nd a) a b).getD false
theorem eqN_iff (a b : Nd) : eqN a b = true ↔ a = b := by
 obtain ⟨t, h, h2⟩ := go_spec (nd a) a b (Nat.le_refl _); unfold eqN; rw [h]; exact h2
theorem eqN_refl (a : Nd) : eqN a a = true := (eqN_iff a a).2 rfl
theorem tsame_ev (a b : Nd) : Ev (fun k => tree_Same.f k a.f0 a.f1.f0 a.f1.f1 a.f2 b.f0 b.f1.f0 b.f1.f1 b.f2) (eqN a b) := by
 refine ⟨nd a, fun k hk => ?_⟩
 show tree_Same.go k _ _ = _
 rw [Nd.eta, Nd.eta]; obtain ⟨t, h, h2⟩ := go_spec k a b hk; rw [h]
 congr 1
 rw [Bool.eq_iff_iff, h2, eqN_iff]
theorem rsame_evN (a b : Nd) (hs : sm a) : Ev (fun k => marginaliaref05_Same.f k a.f0 a.f1.f0 a.f1.f1 a.f2 b.f0 b.f1.f0 b.f1.f1 b.f2) (eqN a b) := by
 obtain ⟨t, h, h2⟩ := rsame_ev a hs b
 have : t = eqN a b := (by rw [Bool.eq_iff_iff, h2, eqN_iff])
 rw [← this]; exact h
/-! ### where alone -/
/-- How many kids differ, and which one differs last. -/
def dif : List Nd → List Nd → Nat → Nat → Nat → Nat × Nat
 | x :: r, y :: s, i, m, a => if eqN x y = true then dif r s (i + 1) m a else dif r s (i + 1) (m + 1) i
 | _, _, _, m, a => (m, a)
theorem dif_le : ∀ (l s : List Nd) (i m a : Nat), m ≤ (dif l s i m a).1 ∧ (dif l s i m a).1 ≤ m + l.length
 | [], _, i, m, a => ⟨by simp [dif], by simp [dif]⟩
 | _ :: _, [], i, m, a => ⟨by simp [dif], by simp [dif]⟩
 | x :: r, y :: s, i, m, a => by
  simp only [dif]
  split
  ·have := dif_le r s (i + 1) m a; simp only [List.length_cons]
   omega
  ·have := dif_le r s (i + 1) (m + 1) i; simp only [List.length_cons]
   omega
theorem dif_zero : ∀ (l s : List Nd) (i m a : Nat), l.length = s.length → (dif l s i m a).1 = m → l = s ∧ (dif l s i m a).2 = a
 | [], [], i, m, a, _, _ => ⟨rfl, rfl⟩
 | [], _ :: _, i, m, a, h, _ => by simp at h
 | _ :: _, [], i, m, a, h, _ => by simp at h
 | x :: r, y :: s, i, m, a, hl, h => by
  simp only [dif] at h ⊢; by_cases e : eqN x y = true
  ·rw [if_pos e] at h ⊢; obtain ⟨h1, h2⟩ := dif_zero r s (i + 1) m a (by simpa using hl) h; exact ⟨by rw [(eqN_iff x y).1 e, h1], h2⟩
  ·rw [if_neg e] at h; have := (dif_le r s (i + 1) (m + 1) i).1
   omega
/-- Just one kid differs. -/
theorem dif_one : ∀ (l s : List Nd) (i m a : Nat), l.length = s.length → (dif l s i m a).1 = m + 1 → ∃ j x y, (dif l s i m a).2 = i + j ∧ l[j]? = some x ∧ s[j]? = some y ∧ x ≠ y ∧ s = l.set j y
 | [], [], i, m, a, _, h => by simp [dif] at h
 | [], _ :: _, i, m, a, h, _ => by simp at h
 | _ :: _, [], i, m, a, h, _ => by simp at h
 | x :: r, y :: s, i, m, a, hl, h => by
  simp only [dif] at h ⊢; by_cases e : eqN x y = true
  ·rw [if_pos e] at h ⊢; obtain ⟨j, u, v, h1, h2, h3, h4, h5⟩ := dif_one r s (i + 1) m a (by simpa using hl) h; exact ⟨j + 1, u, v, by omega, by simpa using h2, by simpa using h3, h4, by rw [List.set_cons_succ, ← h5, (eqN_iff x y).1 e]⟩
  ·rw [if_neg e] at h ⊢; obtain ⟨h1, h2⟩ := dif_zero r s (i + 1) (m + 1) i (by simpa using hl) h; exact ⟨0, x, y, by omega, rfl, rfl, fun q => e ((eqN_iff x y).2 q), by rw [List.set_cons_zero, h1]⟩
/-- The position of what alone differs: so many steps. -/
def chg : Nat → Nd → Nd → List Int
 | 0, _, _ => []
 | m + 1, a, b => if a.f0 = b.f0 ∧ ¬ a.f0 = 1 ∧ a.f2.length = b.f2.length ∧ (dif a.f2 b.f2 0 0 0).1 = 1 then (((dif a.f2 b.f2 0 0 0).2 : Nat) : Int) :: chg m (a.f2.getD (dif a.f2 b.f2 0 0 0).2 a) (b.f2.getD (dif a.f2 b.f2 0 0 0).2 b) else []
theorem tdif_loop (acc : List Int) (a b : Nd) (hl : a.f2.length = b.f2.length) (hz : a.f2.length < 1000000) {R : List Int × Bool × Int} (M A : Nat)
  (H : Ev (fun k => tree_Changed.l1 k acc (A : Int) (M : Int) a.f2 (a.f2.length : Int) (a.f2.length : Int) a.f0 a.f1.f0 a.f1.f1 a.f2 b.f0 b.f1.f0 b.f1.f1 b.f2) R) :
  ∀ (r s : List Nd) (i m q : Nat), a.f2.drop i = r → b.f2.drop i = s → i ≤ a.f2.length → m ≤ i → dif r s i m q = (M, A) → Ev (fun k => tree_Changed.l1 k acc (q : Int) (m : Int) a.f2 (a.f2.length : Int) (i : Int) a.f0 a.f1.f0 a.f1.f1 a.f2 b.f0 b.f1.f0 b.f1.f1 b.f2) R
 | [], s, i, m, q, h1, h2, hi, hm, hd => by
  have := le_of_nil h1
  have e : i = a.f2.length := (by omega)
  simp only [dif, Prod.mk.injEq] at hd; obtain ⟨rfl, rfl⟩ := hd; rw [e]; exact H
 | x :: r, [], i, m, q, h1, h2, hi, hm, hd => by
  have := le_of_nil h2; have := lt_of_drop h1
  omega
 | x :: r, y :: s, i, m, q, h1, h2, hi, hm, hd => by
  have l1 := lt_of_drop h1; have l2 := lt_of_drop h2
  have IH := fun m q => tdif_loop acc a b hl hz M A H r s (i + 1) m q (drop_next h1) (drop_next h2) (by omega)
  simp only [dif] at hd; refine Ev.shift ?_; simp only [tree_Changed.l1]; rw [rd_nd h1, rd_nd h2, w64 (n := (i : Int) + 1) (by omega) (by omega), w64 (n := (m : Int) + 1) (by omega) (by omega)]; refine Ev.pos (by omega) (Ev.pos (by omega) (Ev.pos (by omega) (Ev.pos (by omega) (Ev.bind (tsame_ev x y) ?_)))); by_cases e : eqN x y = true
  ·rw [if_pos e] at hd; exact Ev.pos e (by exact_mod_cast IH m q (by omega) hd)
  ·rw [if_neg e] at hd; exact Ev.neg e (by exact_mod_cast IH (m + 1) i (by omega) hd)
theorem rdif_loop (acc : List Int) (a b : Nd) (ha : sm a) (hl : a.f2.length = b.f2.length) (hz : a.f2.length < 1000000) {R : List Int × Bool} (M A : Nat)
  (H : Ev (fun k => marginaliaref05_Changed.l1 k acc (M : Int) (A : Int) (a.f2.length : Int) a.f0 a.f1.f0 a.f1.f1 a.f2 b.f0 b.f1.f0 b.f1.f1 b.f2) R) :
  ∀ (r s : List Nd) (i m q : Nat), a.f2.drop i = r → b.f2.drop i = s → i ≤ a.f2.length → m ≤ i → dif r s i m q = (M, A) → Ev (fun k => marginaliaref05_Changed.l1 k acc (m : Int) (q : Int) (i : Int) a.f0 a.f1.f0 a.f1.f1 a.f2 b.f0 b.f1.f0 b.f1.f1 b.f2) R
 | [], s, i, m, q, h1, h2, hi, hm, hd => by
  have := le_of_nil h1
  have e : i = a.f2.length := (by omega)
  simp only [dif, Prod.mk.injEq] at hd; obtain ⟨rfl, rfl⟩ := hd; rw [e]; exact H
 | x :: r, [], i, m, q, h1, h2, hi, hm, hd => by
  have := le_of_nil h2; have := lt_of_drop h1
  omega
 | x :: r, y :: s, i, m, q, h1, h2, hi, hm, hd => by
  have l1 := lt_of_drop h1; have l2 := lt_of_drop h2; have hx : x ∈ a.f2 := List.mem_of_mem_drop (by rw [h1]; simp)
  have IH := fun m q => rdif_loop acc a b ha hl hz M A H r s (i + 1) m q (drop_next h1) (drop_next h2) (by omega)
  simp only [dif] at hd; refine Ev.shift ?_; simp only [marginaliaref05_Changed.l1]; rw [rd_nd h1, rd_nd h2, w64 (n := (i : Int) + 1) (by omega) (by omega), w64 (n := (m : Int) + 1) (by omega) (by omega)]; refine Ev.pos (by omega) (Ev.pos (by omega) (Ev.pos (by omega) (Ev.bind (rsame_evN x y (ha.kid hx)) ?_))); by_cases e : eqN x y = true
  ·rw [if_pos e] at hd; exact Ev.pos e (by exact_mod_cast IH m q (by omega) hd)
  ·rw [if_neg e] at hd; exact Ev.neg e (by exact_mod_cast IH (m + 1) i (by omega) hd)
theorem getD_of {l : List Nd} {i : Nat} {x d : Nd} (h : l[i]? = some x) : l.getD i d = x := by simp [List.getD, h]
theorem tchg_ev : ∀ (m : Nat) (a b : Nd) (acc : List Int), nd a ≤ m → sm a → acc.length + m ≤ 10000000 →
  Ev (fun k => tree_Changed.l0 k acc a.f0 a.f1.f0 a.f1.f1 a.f2 b.f0 b.f1.f0 b.f1.f1 b.f2) (acc ++ chg m a b, true, 0)
 | 0, a, b, acc, h, _, _ => by have := nd_pos a; omega
 | m + 1, a, b, acc, h, hs, hacc => by
  have hz := hs.len; have e := nd_eq a; refine Ev.shift ?_; simp only [tree_Changed.l0, chg]
  have stop : ¬ (a.f0 = b.f0 ∧ ¬ a.f0 = 1 ∧ a.f2.length = b.f2.length) → Ev (fun k => tree_Changed.j2 k acc false a.f0 a.f1.f0 a.f1.f1 a.f2 b.f0 b.f1.f0 b.f1.f1 b.f2) (acc ++ (if a.f0 = b.f0 ∧ ¬ a.f0 = 1 ∧ a.f2.length = b.f2.length ∧ (dif a.f2 b.f2 0 0 0).1 = 1 then (((dif a.f2 b.f2 0 0 0).2 : Nat) : Int) :: chg m (a.f2.getD (dif a.f2 b.f2 0 0 0).2 a) (b.f2.getD (dif a.f2 b.f2 0 0 0).2 b) else []), true, 0) := by
   intro hn; rw [if_neg (fun q => hn ⟨q.1, q.2.1, q.2.2.1⟩), List.append_nil]; refine Ev.shift ?_; simp only [tree_Changed.j2]; exact Ev.neg (by simp) (Ev.now _)
  by_cases h0 : a.f0 = b.f0
  ·refine Ev.pos h0 ?_; by_cases h1 : a.f0 = 1
   ·exact Ev.pos h1 (stop (fun q => q.2.1 h1))
   ·refine Ev.neg h1 ?_; by_cases h2 : a.f2.length = b.f2.length
    ·have e2 : ((a.f2.length : Int) == (b.f2.length : Int)) = true := (by rw [h2]; simp)
     rw [e2]; clear stop; refine Ev.shift ?_; simp only [tree_Changed.j2]; refine Ev.pos (by simp) ?_; refine tdif_loop acc a b h2 hz (dif a.f2 b.f2 0 0 0).1 (dif a.f2 b.f2 0 0 0).2 ?_ a.f2 b.f2 0 0 0 rfl rfl (Nat.zero_le _) (Nat.le_refl _) rfl; refine Ev.shift ?_; simp only [tree_Changed.l1]; refine Ev.neg (by omega) ?_; by_cases h3 : (dif a.f2 b.f2 0 0 0).1 = 1
     ·rw [if_pos ⟨h0, h1, h2, h3⟩]; obtain ⟨j, x, y, h4, h5, h6, h7, h8⟩ := dif_one a.f2 b.f2 0 0 0 h2 (by omega); have hj : j < a.f2.length := (List.getElem?_eq_some_iff.1 h5).1; have hx := List.mem_of_getElem? h5; rw [h4, h3, Nat.zero_add, rd_at h5, rd_at h6, getD_of h5, getD_of h6]; have IH := tchg_ev m x y (acc ++ [(j : Int)]) (by have := sum_mem (f := nd) hx; omega) (hs.kid hx) (by simp; omega); rw [List.append_assoc] at IH; exact Ev.pos (by simp) (Ev.pos (by omega) (Ev.pos (by omega) (Ev.pos (by omega) (Ev.pos (by omega) IH))))
     ·rw [if_neg (fun q => h3 q.2.2.2), List.append_nil]; exact Ev.neg (by omega) (Ev.now _)
    ·have e2 : ((a.f2.length : Int) == (b.f2.length : Int)) = false := (by simp; omega)
     rw [e2]; exact stop (fun q => h2 q.2.2)
  ·exact Ev.neg h0 (stop (fun q => h0 q.1))
theorem rchg_ev : ∀ (m : Nat) (a b : Nd) (acc : List Int), nd a ≤ m → sm a → acc.length + m ≤ 10000000 →
  Ev (fun k => marginaliaref05_Changed.l0 k acc a.f0 a.f1.f0 a.f1.f1 a.f2 b.f0 b.f1.f0 b.f1.f1 b.f2) (acc ++ chg m a b, true)
 | 0, a, b, acc, h, _, _ => by have := nd_pos a; omega
 | m + 1, a, b, acc, h, hs, hacc => by
  have hz := hs.len; have e := nd_eq a; refine Ev.shift ?_; simp only [marginaliaref05_Changed.l0, chg]
  have stop : ¬ (a.f0 = b.f0 ∧ ¬ a.f0 = 1 ∧ a.f2.length = b.f2.length) → Ev (fun k => marginaliaref05_Changed.j1 k acc false a.f0 a.f1.f0 a.f1.f1 a.f2 b.f0 b.f1.f0 b.f1.f1 b.f2) (acc ++ (if a.f0 = b.f0 ∧ ¬ a.f0 = 1 ∧ a.f2.length = b.f2.length ∧ (dif a.f2 b.f2 0 0 0).1 = 1 then (((dif a.f2 b.f2 0 0 0).2 : Nat) : Int) :: chg m (a.f2.getD (dif a.f2 b.f2 0 0 0).2 a) (b.f2.getD (dif a.f2 b.f2 0 0 0).2 b) else []), true) := by
   intro hn; rw [if_neg (fun q => hn ⟨q.1, q.2.1, q.2.2.1⟩), List.append_nil]; refine Ev.shift ?_; simp only [marginaliaref05_Changed.j1]; exact Ev.neg (by simp) (Ev.now _)
  by_cases h0 : a.f0 = b.f0
  ·refine Ev.pos h0 ?_; by_cases h1 : a.f0 = 1
   ·exact Ev.pos h1 (stop (fun q => q.2.1 h1))
   ·refine Ev.neg h1 ?_; by_cases h2 : a.f2.length = b.f2.length
    ·have e2 : ((a.f2.length : Int) == (b.f2.length : Int)) = true := (by rw [h2]; simp)
     rw [e2]; clear stop; refine Ev.shift ?_; simp only [marginaliaref05_Changed.j1]; refine Ev.pos (by simp) ?_; refine rdif_loop acc a b hs h2 hz (dif a.f2 b.f2 0 0 0).1 (dif a.f2 b.f2 0 0 0).2 ?_ a.f2 b.f2 0 0 0 rfl rfl (Nat.zero_le _) (Nat.le_refl _) rfl; refine Ev.shift ?_; simp only [marginaliaref05_Changed.l1]; refine Ev.neg (by omega) ?_; by_cases h3 : (dif a.f2 b.f2 0 0 0).1 = 1
     ·rw [if_pos ⟨h0, h1, h2, h3⟩]; obtain ⟨j, x, y, h4, h5, h6, h7, h8⟩ := dif_one a.f2 b.f2 0 0 0 h2 (by omega); have hj : j < a.f2.length := (List.getElem?_eq_some_iff.1 h5).1; have hx := List.mem_of_getElem? h5; rw [h4, h3, Nat.zero_add, rd_at h5, rd_at h6, getD_of h5, getD_of h6]; have IH := rchg_ev m x y (acc ++ [(j : Int)]) (by have := sum_mem (f := nd) hx; omega) (hs.kid hx) (by simp; omega); rw [List.append_assoc] at IH; exact Ev.pos (by simp) (Ev.pos (by omega) (Ev.pos (by omega) (Ev.pos (by omega) (Ev.pos (by omega) IH))))
     ·rw [if_neg (fun q => h3 q.2.2.2), List.append_nil]; exact Ev.neg (by omega) (Ev.now _)
    ·have e2 : ((a.f2.length : Int) == (b.f2.length : Int)) = false := (by simp; omega)
     rw [e2]; exact stop (fun q => h2 q.2.2)
  ·exact Ev.neg h0 (stop (fun q => h0 q.1))
theorem Changed_ev (a b : Nd) (ha : sm a) (hb : sm b) : Ev (fun k => tree_Changed.f k a.f0 a.f1.f0 a.f1.f1 a.f2 b.f0 b.f1.f0 b.f1.f1 b.f2)
  (if fmd a = true ∧ fmd b = true then (if eqN a b = true then ([], false, 0) else (chg (nd a) a b, true, 0)) else ([], false, 4)) := by
 unfold tree_Changed.f
 have j0 : ∀ c : Bool, Ev (fun k => tree_Changed.j0 k c a.f0 a.f1.f0 a.f1.f1 a.f2 b.f0 b.f1.f0 b.f1.f1 b.f2) (if c = true then ([], false, 4) else if eqN a b = true then ([], false, 0) else (chg (nd a) a b, true, 0)) := by
  intro c; refine Ev.shift ?_; simp only [tree_Changed.j0]; by_cases hc : c = true
  ·rw [if_pos hc]; exact Ev.pos hc (Ev.now _)
  ·rw [if_neg hc]; refine Ev.neg hc (Ev.bind (tsame_ev a b) ?_); by_cases he : eqN a b = true
   ·rw [if_pos he]; exact Ev.pos he (Ev.now _)
   ·rw [if_neg he]; have := tchg_ev (nd a) a b [] (Nat.le_refl _) ha (by have := ha.2; simp; omega); exact Ev.neg he this
 refine Ev.bind (IsFormed_ev a ha) ?_; by_cases h1 : fmd a = true
 ·refine Ev.pos h1 (Ev.bind (IsFormed_ev b hb) ?_); by_cases h2 : fmd b = true
  ·rw [if_pos ⟨h1, h2⟩, h2]; exact j0 false
  ·rw [if_neg (fun q => h2 q.2)]; rw [Bool.not_eq_true] at h2; rw [h2]; exact j0 true
 ·rw [if_neg (fun q => h1 q.1)]; exact Ev.neg h1 (j0 true)
theorem rChanged_ev (a b : Nd) (ha : sm a) : Ev (fun k => marginaliaref05_Changed.f k a.f0 a.f1.f0 a.f1.f1 a.f2 b.f0 b.f1.f0 b.f1.f1 b.f2)
  (if eqN a b = true then ([], false) else (chg (nd a) a b, true)) := by
 unfold marginaliaref05_Changed.f; refine Ev.bind (rsame_evN a b ha) ?_; by_cases he : eqN a b = true
 ·rw [if_pos he]; exact Ev.pos he (Ev.now _)
 ·rw [if_neg he]; have := rchg_ev (nd a) a b [] (Nat.le_refl _) ha (by have := ha.2; simp; omega); exact Ev.neg he this
theorem ints_loop (l : List Int) (hl : l.length ≤ 1000000000) : ∀ (r i : Nat), i + r = l.length → Ev (fun k => marginaliaref05_Ints.l0 k l l (i : Int)) true
 | 0, i, h => by
  refine Ev.shift ?_; simp only [marginaliaref05_Ints.l0]; exact Ev.neg (by omega) (Ev.now _)
 | r + 1, i, h => by
  have IH := ints_loop l hl r (i + 1) (by omega); refine Ev.shift ?_; simp only [marginaliaref05_Ints.l0]; rw [w64 (n := (i : Int) + 1) (by omega) (by omega)]; exact Ev.pos (by omega) (Ev.pos (by omega) (Ev.pos (by omega) (Ev.pos (by simp) (by exact_mod_cast IH))))
theorem Ints_ev (l : List Int) (hl : l.length ≤ 1000000000) : Ev (fun k => marginaliaref05_Ints.f k l l) true := by
 unfold marginaliaref05_Ints.f; exact Ev.pos rfl (ints_loop l hl l.length 0 (by omega))
theorem chg_len : ∀ (m : Nat) (a b : Nd), (chg m a b).length ≤ m
 | 0, a, b => by simp [chg]
 | m + 1, a, b => by
  simp only [chg]
  split
  ·have := chg_len m (a.f2.getD (dif a.f2 b.f2 0 0 0).2 a) (b.f2.getD (dif a.f2 b.f2 0 0 0).2 b); simp only [List.length_cons]
   omega
  ·simp
end Go.Proofs.Ytnafnieocpkkhaa.P

namespace Go.Proofs.Ytnafnieocpkkhaa.P
open Go.RowKit Go.Proofs.YtnafnieocpkkhaaW.PrintWords Go.Proofs.YtnafnieocpkkhaaW.PrintLast Go.Proofs.YtnafnieocpkkhaaW.PrintMore
attribute [local go_sem] max2_int min2_int max_two min_two max_three min_three max_four min_four
set_option linter.unusedVariables false
set_option linter.unusedSimpArgs false

def tree_All.kids (g : S26 → List Int → List (List Int) → Option (List (List Int))) : List (S26) → Nat → List Int → List (List Int) → Option (List (List Int))
 | [], _, _, out => some out
 | x :: r, i, here, out => (g x (here ++ [(i : Int)]) out).bind fun o => tree_All.kids g r (i + 1) here o
def tree_All.go (kind : Int) : Nat → S26 → List Int → List (List Int) → Option (List (List Int))
 | 0, _, _, _ => none
 | m + 1, n, here, out => if here.length < 1000000 then (if out.length < 1000000 then tree_All.kids (tree_All.go kind m) n.f2 0 here (if n.f0 = kind then out ++ [here] else out) else none) else none
def tree_All.f (k : Nat) (a0_0 : Int) (a0_1 : Int) (a0_2 : ByteArray) (l0_3 : List (S26)) (a1 : Int) : Option (List (List Int) × Int) :=
 (tree_IsFormed.f k a0_0 a0_1 a0_2 l0_3).bind fun b => if b = true then (tree_All.go a1 k ⟨a0_0, ⟨a0_1, a0_2⟩, l0_3⟩ [] []).bind fun l => some (l, 0) else some ([], 4)
abbrev tree_All.RI (w : World) (base : Nat) (v : Value) (xs : List Int) : Prop := Kd.R (Kd.int .i64) 3 w base (fun _ => True) v xs
abbrev tree_All.RR (w : World) (base : Nat) (v : Value) (xs : List (List Int)) : Prop := Kd.R (Kd.slice 3 (Kd.int .i64)) 30 w base (fun _ => True) v xs
/-- What may have changed: block g, rows of []int's, and what is new. -/
def tree_All.Fr (g : Nat) (w w' : World) : Prop := w.heap.size ≤ w'.heap.size ∧ ∀ k, k < w.heap.size → k ≠ g → (∀ cs, w.heap[k]? ≠ some (.cells cs 30 (0, 0))) → w'.heap[k]? = w.heap[k]?
theorem tree_All.Fr.trans {g : Nat} {w w1 w2 : World} (h : tree_All.Fr g w w1) (h2 : tree_All.Fr g w1 w2) : tree_All.Fr g w w2 :=
 ⟨Nat.le_trans h.1 h2.1, fun k hk hg ht => by
  have e := h.2 k hk hg ht
  exact (h2.2 k (Nat.lt_of_lt_of_le hk h.1) hg (fun cs hc => ht cs (by rw [← e]; exact hc))).trans e⟩
theorem tree_All.Fr.below {g : Nat} {w w1 : World} (h : Below w.heap.size w w1) : tree_All.Fr g w w1 := ⟨h.size, fun k hk _ _ => h.block k hk⟩
theorem tree_All.Fr.blk {g b : Nat} {w w1 : World} {cs : Array Value} {t : Nat} {fz : Nat × Nat} (h : tree_All.Fr g w w1) (hb : w.heap[b]? = some (.cells cs t fz)) (ht : t ≠ 30) (hg : b ≠ g) : w1.heap[b]? = some (.cells cs t fz) :=
 (h.2 b (blk_lt hb) hg (fun cs' hc => by rw [hb] at hc; injection hc with hc; injection hc with _ h2; exact ht h2)).trans hb
theorem tree_All.Fr.grown {g : Nat} {w w1 : World} {base : Nat} {v : Value} {xs : List (List Int)} (hr : tree_All.RR w base v xs) (h : w.grownBy w1 v.ownBlock) : tree_All.Fr g w w1 :=
 ⟨h.size, fun k hk _ ht => h.block k hk (fun e => by
  obtain ⟨inner, ho⟩ := Kd.R_own hr; obtain ⟨cells, hc⟩ := own_typed ho k e.symm
  exact ht cells hc)⟩
theorem tree_All.Fr.set {g : Nat} {w w1 : World} (h : tree_All.Fr g w w1) (j : Nat) (u : Value) : tree_All.Fr g w (w1.setCell ⟨g, j, none⟩ u) :=
 ⟨by simpa [World.setCell] using h.1, fun k hk hg ht => (Below.heap_setCell w1 ⟨g, j, none⟩ u k hg).trans (h.2 k hk hg ht)⟩
/-- A row of ints stays. -/
theorem tree_All.RI.fr {g base : Nat} {w w1 : World} {v : Value} {xs : List Int} {cs : Array Value} (hr : tree_All.RI w base v xs) (h : tree_All.Fr g w w1) (hg : w.heap[g]? = some (.cells cs 35 (0, 0))) : tree_All.RI w1 base v xs :=
 Kd.R_mono (Kd.R_step (Kd.R_bound hr) (fun k hk hlt => by
  obtain ⟨_, _, _, q, hq, cells, hc⟩ := hk; have hq3 : q = 3 := List.mem_singleton.1 hq; subst hq3; refine h.2 k hlt (fun e => ?_) (fun cs' hc' => ?_)
  ·subst e; rw [hc] at hg; injection hg with hg; injection hg with _ h2; exact absurd h2 (by decide)
  ·rw [hc] at hc'; injection hc' with hc'; injection hc' with _ h2; exact absurd h2 (by decide))) (fun _ hk => hk.1)
theorem tree_All.infoInt : (Try.prog.info? 3).map (fun i => (i.zero, i.size, i.bytes)) = some (some (.int .i64 0), 1, 8) := by kernel_rfl
theorem tree_All.infoRow : (Try.prog.info? 30).map (fun i => (i.zero, i.size, i.bytes)) = some (some (.slice none 0 0), 1, 24) := by kernel_rfl
/-- slices.Clone of a row of ints of the call's own. -/
theorem tree_All.clone (w : World) (base : Nat) (v : Value) (xs : List Int) (hl : xs.length ≤ 1000000) (h : tree_All.RI w base v xs) :
  Calls Try.prog 57 #[v] w fun e w' => ∃ v', e = .returned v' ∧ tree_All.RI w' w.heap.size v' xs ∧ Below w.heap.size w w' := by
 obtain ⟨A, c, rfl, hc, hC⟩ := Kd.R_reads h
 cases A with
 | none =>
  have h0 : xs = [] := by
   rcases Nat.eq_zero_or_pos xs.length with h0 | h0
   ·exact List.length_eq_zero_iff.mp h0
   ·obtain ⟨ad, e, _⟩ := Kd.at_int hC 0 (by omega) (by omega)
    cases e
  subst h0; refine (Try.slices_Clone_int_nil _ _ w).mono ?_; rintro e w' ⟨rfl, rfl⟩; exact ⟨_, rfl, Kd.R_nil _ _ _ _ _, Below.refl _ _⟩
 | some ad =>
  by_cases h0 : xs.length = 0
  ·have h1 := List.length_eq_zero_iff.mp h0; subst h1; refine (Try.slices_Clone_int_zero ad c w).mono ?_; rintro e w' ⟨v', rfl, ho, _, hb⟩; exact ⟨_, rfl, Kd.R_of_own (by simpa [encs] using ho) (fun _ _ => trivial), hb⟩
  ·obtain ⟨g, rfl⟩ := Kd.R_head h; refine (Try.slices_Clone_int g 0 xs.length c xs w (Nat.le_refl _) (by omega) (fun j hj => ?_)).mono ?_
   ·obtain ⟨ad', e, hx⟩ := Kd.at_int hC (j : Int) (by omega) (by omega)
    cases e
    rw [Int.toNat_natCast] at hx; rw [show (⟨g, 0, none⟩ : Addr).add j = ⟨g, j, none⟩ by unfold Addr.add; simp; try omega] at hx
    simpa [rd] using hx
   ·rintro e w' ⟨v', rfl, ho, _, hb⟩; rw [List.take_length] at ho; exact ⟨_, rfl, Kd.R_of_own (by simpa [encs] using ho) (fun _ _ => trivial), hb⟩
/-- append to a row of ints that is full. -/
theorem tree_All.grow_step {ops : Array Oper} {o : Oper} {a : Act} {K : Act → World → Prop} {Q : Exit → Act → World → Prop} {E : Prop} {W : World} {base : Nat} (hgd : o.guard = none) (s x : Operand) (hop : o.op = .call { callee := .builtin .append, args := #[s, x], argTypes := #[30, 30] })
  (A : Option Addr) (c : Nat) (xs : List Int) (i : Int) (hR : tree_All.RI W base (.slice A xs.length c) xs) (hs : a.eval s = .slice A xs.length xs.length) (bn : Nat) (hbn : bn = W.heap.size) (hx : a.eval x = .slice (some ⟨bn, 0, none⟩) 1 1) (hl : xs.length ≤ 1000000) (hbase : base ≤ W.heap.size)
  (hK : ∀ v1 w1, tree_All.RI w1 base v1 (xs ++ [i]) → Below W.heap.size W w1 → K (a.put o.dst v1) w1) :
  if Region.wanted o (yielded ops a.tmps) = true then Oper.wp Try.prog o a (W.alloc (.cells #[.int .i64 i] 3)) K Q else E := by
 subst hbn; obtain ⟨i0, hi, hz0, hz1, hz2⟩ := info_parts tree_All.infoInt; obtain ⟨A', c', e, hc, hC⟩ := Kd.R_reads hR; injection e with e1 _ e3; subst e1 e3; have hB := below_alloc (Below.refl W.heap.size W) (.cells #[.int .i64 i] 3); refine step_append_grows (w := W.alloc (.cells #[.int .i64 i] 3)) hgd s x 30 hop 3 i0 (.int .i64 0) 1 8 Try.underlying30 hi hz0 hz1 hz2 rfl (by decide) A xs.length xs.length (xs.map (Value.int .i64)) hs (fun e => ?_) (by simp) (fun b e j u hj => ?_) ⟨W.heap.size, 0, none⟩ 1 1 [.int .i64 i] hx rfl (fun j u hj => ?_) (fun u hu => ?_) (by omega) (by unfold maxLen; omega) (by omega) (fun v1 w1 ho hg => hK v1 w1 ?_ ?_)
 ·subst e
  rcases Nat.eq_zero_or_pos xs.length with h0 | h0
  ·exact ⟨h0, h0⟩
  ·obtain ⟨ad, e, _⟩ := Kd.at_int hC 0 (by omega) (by omega)
   cases e
 ·subst e
  have hj' : j < xs.length := by
   have := (List.getElem?_eq_some_iff.1 hj).1
   simpa using this
  obtain ⟨ad', e, hx2⟩ := Kd.at_int hC (j : Int) (by omega) (by omega)
  cases e
  rw [Int.toNat_natCast] at hx2; rw [List.getElem?_map, List.getElem?_eq_getElem hj'] at hj; simp only [Option.map_some, Option.some.injEq] at hj; subst hj; refine (hB.cell (World.block_lt_of_cell? W _ hx2)).trans (hx2.trans ?_)
  simp [rd, hj']
 ·match j, hj with
  | 0, hj =>
   simp only [List.getElem?_cons_zero, Option.some.injEq] at hj; subst hj; rw [show (⟨W.heap.size, 0, none⟩ : Addr).add 0 = ⟨W.heap.size, 0, none⟩ from rfl, Lib.cell_of_heap (blk_new _ _)]; rfl
 ·rw [List.mem_singleton.1 hu]; rfl
 ·exact Kd.R_of_own (own_weaken (by simpa [encs] using ho) (Nat.le_trans hbase hB.size)) (fun _ _ => trivial)
 ·refine hB.trans ?_; exact ⟨hg.os, hg.tape, hg.output, hg.size, fun k hk => hg.block k (Nat.lt_of_lt_of_le hk hB.size) (by simp)⟩
/-- What the literal in All does at a Node: the rows in block g grow. -/
def tree_All.Holds (w0 : World) (kind : Int) (g b3 b7 m : Nat) : Prop := ∀ (n : S26) (A : Option Addr) (cc : Nat) (here : List Int) (v2 : Value) (out : List (List Int)) (vo : Value) (r : List (List Int)) (w : World), n.f2.length ≤ cc → Kd.C k26 w0 A n.f2.length n.f2 → tree_All.RI w w0.heap.size v2 here →
 w.heap[g]? = some (.cells #[vo] 35 (0, 0)) → tree_All.RR w w0.heap.size vo out → w.heap[b3]? = some (.cells #[.int .i64 kind] 3 (0, 0)) → w.heap[b7]? = some (.cells #[(.func (.func 56) #[] #[.pointer (some ⟨b3, 0, none⟩), .pointer (some ⟨g, 0, none⟩), .pointer (some ⟨b7, 0, none⟩)])] 88 (0, 0)) → w0.heap.size ≤ g → b3 ≠ g → b7 ≠ g → Below w0.heap.size w0 w → tree_All.go kind m n here out = some r →
 Calls Try.prog 56 #[.agg #[.int .i64 n.f0, .int .i64 n.f1.f0, .string n.f1.f1, .slice A n.f2.length cc], v2, .pointer (some ⟨b3, 0, none⟩), .pointer (some ⟨g, 0, none⟩), .pointer (some ⟨b7, 0, none⟩)] w fun e w' => e = .returned (.tuple #[]) ∧ ∃ vo', w'.heap[g]? = some (.cells #[vo'] 35 (0, 0)) ∧ tree_All.RR w' w0.heap.size vo' r ∧ Below w0.heap.size w0 w' ∧ tree_All.Fr g w w'
set_option maxHeartbeats 16000000 in
set_option maxRecDepth 100000 in
theorem tree_All.walk_ok (w0 : World) (kind : Int) (g b3 b7 : Nat) : ∀ m, tree_All.Holds w0 kind g b3 b7 m := by
 have hu := Try.underlying26; intro m
 induction m with
 | zero =>
  intro n A cc here v2 out vo r w _ _ _ _ _ _ _ _ _ _ _ h
  simp [tree_All.go] at h
 | succ m ih =>
  intro n A cc here v2 out vo r w hcc hC hRI hG hRR h3 h7 hg n3 n7 hB h; rw [tree_All.go] at h; obtain ⟨hlh, h⟩ := Ut.ite_some h; obtain ⟨hlo, h⟩ := Ut.ite_some h; obtain ⟨A2, c2, e2, hc2, _⟩ := Kd.R_reads hRI; subst e2; have HC := Aside0.mk hC; have IH := Aside0.mk ih; have hmax : n.f2.length ≤ 9223372036854775807 := hC.2.1; have hgl := blk_lt hG; have HNG := Aside0.mk (And.intro hg (And.intro n3 n7)); have hA := below_alloc (Below.refl w.heap.size w) (.cells #[.int .i64 n.f0, .int .i64 n.f1.f0, .string n.f1.f1, .slice A n.f2.length cc] 26); have HB1 := Aside0.mk (below_alloc hB (.cells #[.int .i64 n.f0, .int .i64 n.f1.f0, .string n.f1.f1, .slice A n.f2.length cc] 26)); have HF1 := Aside0.mk (tree_All.Fr.below (g := g) hA); have HG1 := Aside0.mk (blk_alloc hG (.cells #[.int .i64 n.f0, .int .i64 n.f1.f0, .string n.f1.f1, .slice A n.f2.length cc] 26)); have HR1 := Aside0.mk (Kd.R_alloc hRR (.cells #[.int .i64 n.f0, .int .i64 n.f1.f0, .string n.f1.f1, .slice A n.f2.length cc] 26)); have HI1 := Aside0.mk (Kd.R_alloc hRI (.cells #[.int .i64 n.f0, .int .i64 n.f1.f0, .string n.f1.f1, .slice A n.f2.length cc] 26)); have H31 := Aside0.mk (blk_alloc h3 (.cells #[.int .i64 n.f0, .int .i64 n.f1.f0, .string n.f1.f1, .slice A n.f2.length cc] 26)); have H71 := Aside0.mk (blk_alloc h7 (.cells #[.int .i64 n.f0, .int .i64 n.f1.f0, .string n.f1.f1, .slice A n.f2.length cc] 26)); have HN1 := Aside0.mk (blk_new w (.cells #[.int .i64 n.f0, .int .i64 n.f1.f0, .string n.f1.f1, .slice A n.f2.length cc] 26)); have hsz := hB.size
  have hng : w.heap.size ≠ g := (by omega)
  have H := Aside0.mk h; clear hC ih hRI hG hRR h3 h7 hB hA n3 n7 h; go_enter Try.func56, Try.ntmps56; have e3 : (w.alloc (.cells #[.int .i64 n.f0, .int .i64 n.f1.f0, .string n.f1.f1, .slice A n.f2.length cc] 26)).cell? ⟨b3, 0, none⟩ = some (.int .i64 kind) := Lib.cell_of_heap H31.out 0
  go_upto_if 12 with fail
  go_cut [] (fun wc => ∃ (o : List (List Int)) (vp : Value), Aside0 (tree_All.kids (tree_All.go kind m) n.f2 0 here o = some r) ∧ Aside0 (wc.heap[w.heap.size]? = some (.cells #[.int .i64 n.f0, .int .i64 n.f1.f0, .string n.f1.f1, .slice A n.f2.length cc] 26 (0, 0))) ∧ Aside0 (wc.heap[g]? = some (.cells #[vp] 35 (0, 0))) ∧ Aside0 (tree_All.RR wc w0.heap.size vp o) ∧ Aside0 (tree_All.RI wc w0.heap.size (.slice A2 here.length c2) here) ∧ Aside0 (wc.heap[b3]? = some (.cells #[.int .i64 kind] 3 (0, 0))) ∧ Aside0 (wc.heap[b7]? = some (.cells #[(.func (.func 56) #[] #[.pointer (some ⟨b3, 0, none⟩), .pointer (some ⟨g, 0, none⟩), .pointer (some ⟨b7, 0, none⟩)])] 88 (0, 0))) ∧ Aside0 (Below w0.heap.size w0 wc) ∧ Aside0 (tree_All.Fr g w wc))
  case first =>
   have h := H.out; by_cases c : n.f0 = kind
   ·rw [if_pos c] at h; have HH := Aside0.mk h; have cb : (n.f0 == kind) = true := beq_iff_eq.mpr c; clear c h H; have eg : (w.alloc (.cells #[.int .i64 n.f0, .int .i64 n.f1.f0, .string n.f1.f1, .slice A n.f2.length cc] 26)).cell? ⟨g, 0, none⟩ = some vo := Lib.cell_of_heap HG1.out 0; have CL := Aside0.mk (tree_All.clone (w.alloc (.cells #[.int .i64 n.f0, .int .i64 n.f1.f0, .string n.f1.f1, .slice A n.f2.length cc] 26)).drew w0.heap.size (.slice A2 here.length c2) here (by omega) (Kd.R_drew HI1.out))
    have HO3 : ∀ w3, Below (w.alloc (.cells #[.int .i64 n.f0, .int .i64 n.f1.f0, .string n.f1.f1, .slice A n.f2.length cc] 26)).drew.heap.size (w.alloc (.cells #[.int .i64 n.f0, .int .i64 n.f1.f0, .string n.f1.f1, .slice A n.f2.length cc] 26)).drew w3 → tree_All.RR w3 w0.heap.size vo out := fun w3 hb => Kd.R_below (Kd.R_drew HR1.out) hb
    have HB3 : ∀ w3, Below (w.alloc (.cells #[.int .i64 n.f0, .int .i64 n.f1.f0, .string n.f1.f1, .slice A n.f2.length cc] 26)).drew.heap.size (w.alloc (.cells #[.int .i64 n.f0, .int .i64 n.f1.f0, .string n.f1.f1, .slice A n.f2.length cc] 26)).drew w3 → Below w0.heap.size w0 w3 := fun w3 hb => (below_drew1 HB1.out).trans (hb.mono (by have := HB1.out.size; have : (w.alloc (.cells #[.int .i64 n.f0, .int .i64 n.f1.f0, .string n.f1.f1, .slice A n.f2.length cc] 26)).drew.heap.size = (w.alloc (.cells #[.int .i64 n.f0, .int .i64 n.f1.f0, .string n.f1.f1, .slice A n.f2.length cc] 26)).heap.size := rfl; omega))
    have HG3 : ∀ w3, Below (w.alloc (.cells #[.int .i64 n.f0, .int .i64 n.f1.f0, .string n.f1.f1, .slice A n.f2.length cc] 26)).drew.heap.size (w.alloc (.cells #[.int .i64 n.f0, .int .i64 n.f1.f0, .string n.f1.f1, .slice A n.f2.length cc] 26)).drew w3 → w3.heap[g]? = some (.cells #[vo] 35 (0, 0)) := fun w3 hb => blk_below (blk_drew HG1.out) hb
    have HP3 : ∀ v3 w3, tree_All.RI w3 (w.alloc (.cells #[.int .i64 n.f0, .int .i64 n.f1.f0, .string n.f1.f1, .slice A n.f2.length cc] 26)).drew.heap.size v3 here → Kd.R (Kd.int .i64) 3 w3 w0.heap.size (fun k => some k ≠ vo.ownBlock) v3 here := fun v3 w3 hr => Kd.R_mono (Kd.R_lower (Kd.R_newR hr (Kd.R_drew HR1.out)) (by have := HB1.out.size; have : (w.alloc (.cells #[.int .i64 n.f0, .int .i64 n.f1.f0, .string n.f1.f1, .slice A n.f2.length cc] 26)).drew.heap.size = (w.alloc (.cells #[.int .i64 n.f0, .int .i64 n.f1.f0, .string n.f1.f1, .slice A n.f2.length cc] 26)).heap.size := rfl; omega)) (fun _ hk => hk.2)
    go_wp2_with fail
    go_region_law (first | (go_simp; go_at_call 57; refine CL.out.mono ?_; rintro e w3 ⟨v3, rfl, hr3, hb3⟩; obtain ⟨A3, c3, hv3, _, _⟩ := Kd.R_reads hr3; subst hv3; have hcg : w3.cell? ⟨g, 0, none⟩ = some vo := Lib.cell_of_heap (HG3 w3 hb3) 0; have hcg2 : (w3.alloc (.cells #[.slice A3 here.length c3] 30)).cell? ⟨g, 0, none⟩ = some vo := Lib.cell_of_heap (blk_alloc (HG3 w3 hb3) _) 0) | (refine Kd.R_append_step (Kd.slice 3 (Kd.int .i64)) w0.heap.size (w0 := w0) (by rfl) (.tmp 13) (.tmp 16) 35 30 (.slice none 0 0) 24 rfl Try.underlying35 tree_All.infoRow rfl (by decide) (by omega) vo out here [.slice A3 here.length c3] (fun _ => True) (fun k => some k ≠ vo.ownBlock) rfl rfl ⟨_, rfl, HP3 _ w3 hr3⟩ (fun k hk => ⟨trivial, hk⟩) (fun _ _ => trivial) (HO3 w3 hb3) (HB3 w3 hb3) (HB3 w3 hb3).size (by omega) ?_; intro v4 w4 hr4 hb4 hg4 hat4; obtain ⟨A4, c4, hv4, _, _⟩ := Kd.R_reads hr4; obtain ⟨n4, hn4⟩ : ∃ n, Aside0 (n = (out ++ [here]).length) := ⟨_, ⟨rfl⟩⟩; rw [← hn4.out] at hv4; subst hv4; have hst := blk_grown (HG3 w3 hb3) hg4 (Kd.R_ne (HO3 w3 hb3) (HG3 w3 hb3) (by decide)); have hct : w4.cell? ⟨g, 0, none⟩ = some vo := Lib.cell_of_heap hst 0; have hft := Lib.frozen_of_heap hst 0))
    all_goals
     have HG5 := Aside0.mk (blk_put (cs' := #[.slice A4 n4 c4]) hst 0 (.slice A4 n4 c4) rfl); have HO5 := Aside0.mk (Kd.R_set hr4 hst (by intro q hq e; subst e; revert hq; decide) 0 (.slice A4 n4 c4)); have HB5 := Aside0.mk (hb4.setCell (p := ⟨g, 0, none⟩) HNG.out.1 (.slice A4 n4 c4)); have HF51 := Aside0.mk (tree_All.Fr.set (tree_All.Fr.trans (tree_All.Fr.below (g := g) (show Below (w.alloc (.cells #[.int .i64 n.f0, .int .i64 n.f1.f0, .string n.f1.f1, .slice A n.f2.length cc] 26)).heap.size (w.alloc (.cells #[.int .i64 n.f0, .int .i64 n.f1.f0, .string n.f1.f1, .slice A n.f2.length cc] 26)) w3 from (below_drew1 (Below.refl _ _)).trans hb3)) (tree_All.Fr.grown (HO3 w3 hb3) hg4)) 0 (.slice A4 n4 c4)); have HF5 := Aside0.mk (tree_All.Fr.trans HF1.out HF51.out); have HI5 := Aside0.mk (tree_All.RI.fr HI1.out HF51.out HG1.out); have H35 := Aside0.mk (tree_All.Fr.blk HF51.out H31.out (by decide) HNG.out.2.1); have H75 := Aside0.mk (tree_All.Fr.blk HF51.out H71.out (by decide) HNG.out.2.2); have HN5 := Aside0.mk (tree_All.Fr.blk HF51.out HN1.out (by decide) hng)
     (try go_wp2_with fail)
     go_meet
     case rel => exact ⟨_, _, HH, HN5, HG5, HO5, HI5, H35, H75, HB5, HF5⟩
   ·rw [if_neg c] at h; have HH := Aside0.mk h; have cb : (n.f0 == kind) = false := beq_eq_false_iff_ne.mpr c; clear c h H; go_wp2_with fail
    go_meet
    case rel => exact ⟨_, _, HH, HN1, HG1, HR1, HI1, H31, H71, HB1, HF1⟩
  case rest =>
   clear HB1 HF1 HG1 HR1 HI1 H31 H71 HN1 H e3; obtain ⟨o0, vp0, HH, HN, HG, HR, HI, H3, H7, HB, HF⟩ := hcut; have z5 : wc.cell? ⟨w.heap.size, 3, none⟩ = some (.slice A n.f2.length cc) := Lib.cell_of_heap HN.out 3; go_wp2_with fail
   go_loopg [21] n.f2.length (fun kq v21 w' => ∃ (i : Nat) (o : List (List Int)) (vp : Value), v21 = .int .i64 (i : Int) ∧ Aside0 (i + kq = n.f2.length) ∧ Aside0 (tree_All.kids (tree_All.go kind m) (n.f2.drop i) i here o = some r) ∧ Aside0 (w'.heap[g]? = some (.cells #[vp] 35 (0, 0))) ∧ Aside0 (tree_All.RR w' w0.heap.size vp o) ∧ Aside0 (tree_All.RI w' w0.heap.size (.slice A2 here.length c2) here) ∧ Aside0 (w'.heap[b3]? = some (.cells #[.int .i64 kind] 3 (0, 0))) ∧ Aside0 (w'.heap[b7]? = some (.cells #[(.func (.func 56) #[] #[.pointer (some ⟨b3, 0, none⟩), .pointer (some ⟨g, 0, none⟩), .pointer (some ⟨b7, 0, none⟩)])] 88 (0, 0))) ∧ Aside0 (Below w0.heap.size w0 w') ∧ Aside0 (tree_All.Fr g w w'))
   case atStart => exact ⟨0, _, _, rfl, ⟨by omega⟩, HH, HG, HR, HI, H3, H7, HB, HF⟩
   case round =>
    clear HH HN HG HR HI H3 H7 HB HF z5; obtain ⟨i, o, vp, rfl, HK, HH, HG, HR, HI, H3, H7, HB, HF⟩ := hrel; by_cases hlt : i < n.f2.length
    ·have hd1 : decide ((i : Int) < (n.f2.length : Int)) = true := decide_eq_true (by omega); have H := HH.out; rw [List.drop_eq_getElem_cons hlt] at H; simp only [tree_All.kids] at H; obtain ⟨o', ho', Hn⟩ := Option.bind_eq_some_iff.mp H; clear H HH
     have hrd : rd_T26 n.f2 (i : Int) = n.f2[i] := (by simp [rd_T26, hlt])
     obtain ⟨ad, A3, c3, e, hx0, hx1, hx2, hx3, hl3, hC3⟩ := at_T26 HC.out (i : Int) (by omega) (by omega); rw [hrd] at hx0 hx1 hx2 hx3 hl3 hC3; rw [Int.toNat_natCast] at hx0 hx1 hx2 hx3; subst e; replace hx0 := (HB.out.cell (World.block_lt_of_cell? w0 _ hx0)).trans hx0; replace hx1 := (HB.out.cell (World.block_lt_of_cell? w0 _ hx1)).trans hx1; replace hx2 := (HB.out.cell (World.block_lt_of_cell? w0 _ hx2)).trans hx2; replace hx3 := (HB.out.cell (World.block_lt_of_cell? w0 _ hx3)).trans hx3; clear hrd; generalize n.f2[i] = x at *; have HO' := Aside0.mk ho'; have HH2 := Aside0.mk Hn; have HC3 := Aside0.mk (And.intro hC3 hl3); clear ho' Hn hC3 hl3
     cases gk with
     | zero => exact absurd hlt (by have := HK.out; omega)
     | succ kq' =>
     go_upto_region 6 with fail
     clear hx0 hx1 hx2 hx3 hd1
     have HW2 : Aside0 (Below wr.heap.size wr (wr.alloc (.cells #[.int .i64 x.f0, .int .i64 x.f1.f0, .string x.f1.f1, .slice A3 x.f2.length c3] 26))) := ⟨below_alloc (Below.refl _ _) _⟩
     have HX2 := Aside0.mk (blk_new wr (.cells #[.int .i64 x.f0, .int .i64 x.f1.f0, .string x.f1.f1, .slice A3 x.f2.length c3] 26))
     have HS2 : Aside0 ((wr.alloc (.cells #[.int .i64 x.f0, .int .i64 x.f1.f0, .string x.f1.f1, .slice A3 x.f2.length c3] 26)).heap.size = wr.heap.size + 1) := ⟨by simp⟩
     have HI2 := Aside0.mk (Kd.R_alloc HI.out (.cells #[.int .i64 x.f0, .int .i64 x.f1.f0, .string x.f1.f1, .slice A3 x.f2.length c3] 26)); generalize wr.alloc (.cells #[.int .i64 x.f0, .int .i64 x.f1.f0, .string x.f1.f1, .slice A3 x.f2.length c3] 26) = W2 at *; have f7 : W2.cell? ⟨b7, 0, none⟩ = some (.func (.func 56) #[] #[.pointer (some ⟨b3, 0, none⟩), .pointer (some ⟨g, 0, none⟩), .pointer (some ⟨b7, 0, none⟩)]) := Lib.cell_of_heap (blk_below H7.out HW2.out) 0; have f7a : (W2.alloc (.cells #[.int .i64 (i : Int)] 3)).cell? ⟨b7, 0, none⟩ = some (.func (.func 56) #[] #[.pointer (some ⟨b3, 0, none⟩), .pointer (some ⟨g, 0, none⟩), .pointer (some ⟨b7, 0, none⟩)]) := Lib.cell_of_heap (blk_alloc (blk_below H7.out HW2.out) _) 0; have y0 : W2.cell? ⟨wr.heap.size, 0, none⟩ = some (.int .i64 x.f0) := Lib.cell_of_heap HX2.out 0; have u0 : (W2.alloc (.cells #[.int .i64 (i : Int)] 3)).cell? ⟨wr.heap.size, 0, none⟩ = some (.int .i64 x.f0) := Lib.cell_of_heap (blk_alloc HX2.out _) 0; have y1 : W2.cell? ⟨wr.heap.size, 1, none⟩ = some (.int .i64 x.f1.f0) := Lib.cell_of_heap HX2.out 1; have u1 : (W2.alloc (.cells #[.int .i64 (i : Int)] 3)).cell? ⟨wr.heap.size, 1, none⟩ = some (.int .i64 x.f1.f0) := Lib.cell_of_heap (blk_alloc HX2.out _) 1; have y2 : W2.cell? ⟨wr.heap.size, 2, none⟩ = some (.string x.f1.f1) := Lib.cell_of_heap HX2.out 2; have u2 : (W2.alloc (.cells #[.int .i64 (i : Int)] 3)).cell? ⟨wr.heap.size, 2, none⟩ = some (.string x.f1.f1) := Lib.cell_of_heap (blk_alloc HX2.out _) 2; have y3 : W2.cell? ⟨wr.heap.size, 3, none⟩ = some (.slice A3 x.f2.length c3) := Lib.cell_of_heap HX2.out 3; have u3 : (W2.alloc (.cells #[.int .i64 (i : Int)] 3)).cell? ⟨wr.heap.size, 3, none⟩ = some (.slice A3 x.f2.length c3) := Lib.cell_of_heap (blk_alloc HX2.out _) 3; have KB := Aside0.mk (fun w5 (hb : Below W2.drew.heap.size W2.drew w5) => (show Below wr.heap.size wr w5 from HW2.out.trans ((below_drew1 (Below.refl W2.heap.size W2)).trans hb |>.mono HW2.out.size))); have hbs : w0.heap.size ≤ W2.drew.heap.size := Nat.le_trans HB.out.size HW2.out.size; have HLL := Aside0.mk (show here.length ≤ 1000000 by omega); clear hgl hsz hng hlo hlh hcc
     go_region_law (first | (refine tree_All.grow_step (W := W2.drew) (base := w0.heap.size) rfl (.tmp 33) (.tmp 35) rfl A2 c2 here (i : Int) (Kd.R_drew HI2.out) rfl W2.heap.size rfl rfl HLL.out hbs ?_; intro v5 w5 hr5 hb5; have f75 : w5.cell? ⟨b7, 0, none⟩ = some (.func (.func 56) #[] #[.pointer (some ⟨b3, 0, none⟩), .pointer (some ⟨g, 0, none⟩), .pointer (some ⟨b7, 0, none⟩)]) := Lib.cell_of_heap (blk_below H7.out (KB.out w5 hb5)) 0; have s0 : w5.cell? ⟨wr.heap.size, 0, none⟩ = some (.int .i64 x.f0) := Lib.cell_of_heap (blk_below (blk_drew HX2.out) hb5) 0; have s1 : w5.cell? ⟨wr.heap.size, 1, none⟩ = some (.int .i64 x.f1.f0) := Lib.cell_of_heap (blk_below (blk_drew HX2.out) hb5) 1; have s2 : w5.cell? ⟨wr.heap.size, 2, none⟩ = some (.string x.f1.f1) := Lib.cell_of_heap (blk_below (blk_drew HX2.out) hb5) 2; have s3 : w5.cell? ⟨wr.heap.size, 3, none⟩ = some (.slice A3 x.f2.length c3) := Lib.cell_of_heap (blk_below (blk_drew HX2.out) hb5) 3) | (go_simp; go_at_call 56; refine (IH.out x A3 c3 (here ++ [(i : Int)]) v5 o vp o' w5 HC3.out.2 HC3.out.1 hr5 (blk_below HG.out (KB.out w5 hb5)) (Kd.R_below HR.out (KB.out w5 hb5)) (blk_below H3.out (KB.out w5 hb5)) (blk_below H7.out (KB.out w5 hb5)) HNG.out.1 HNG.out.2.1 HNG.out.2.2 (HB.out.trans ((KB.out w5 hb5).mono HB.out.size)) HO'.out).mono ?_; rintro e w6 ⟨rfl, vo6, hg6, hr6, hb6, hf6⟩))
     all_goals
      have HFx := Aside0.mk (tree_All.Fr.trans (tree_All.Fr.below (g := g) (KB.out w5 hb5)) hf6); have HG6 := Aside0.mk hg6; have HR6 := Aside0.mk hr6; have HB6 := Aside0.mk hb6; clear f75 f7 f7a s0 s1 s2 s3 y0 y1 y2 y3 u0 u1 u2 u3 hr5 hb5 hg6 hr6 hb6 hf6 hbs; go_wp2_with fail
      go_roundg kq'
      case measure => omega
      case rel => exact ⟨i + 1, o', vo6, by go_num, ⟨by have := HK.out; omega⟩, HH2, HG6, HR6, ⟨tree_All.RI.fr HI.out HFx.out HG.out⟩, ⟨tree_All.Fr.blk HFx.out H3.out (by decide) HNG.out.2.1⟩, ⟨tree_All.Fr.blk HFx.out H7.out (by decide) HNG.out.2.2⟩, HB6, ⟨tree_All.Fr.trans HF.out HFx.out⟩⟩
    ·have hd1 : decide ((i : Int) < (n.f2.length : Int)) = false := decide_eq_false (by omega); have H := HH.out; rw [List.drop_of_length_le (by have := HK.out; omega)] at H; simp only [tree_All.kids, Option.some.injEq] at H; subst H; go_wp2_with fail; go_end0; exact ⟨rfl, vp, HG.out, HR.out, HB.out, HF.out⟩
theorem tree_All.run_store_func (P : Program) (w : World) (a : Addr) (f : Fn) (cs lb : Array Value) (m : Mode) : (store a (.func f cs lb) m).run P w = stored P w a (.func f cs lb) m := run_store P w a _ m rfl
attribute [local go_sem] tree_All.run_store_func
theorem tree_All.second (w : World) (o1 : Obj) (o2 : Obj) : Aside0 (((w.alloc o1).alloc o2).heap[w.heap.size + 1]? = some o2) := ⟨by
 have := blk_new (w.alloc o1) o2
 simpa using this⟩
set_option maxHeartbeats 8000000 in
set_option maxRecDepth 100000 in
theorem tree_All.calls (k : Nat) (a0_0 : Int) (a0_1 : Int) (a0_2 : ByteArray) (A0_3 : Option Addr) (c0_3 : Nat) (l0_3 : List (S26)) (a1 : Int) (r1 : List (List Int)) (r2 : Int) (w : World) (hr0_3 : Kd.C k26 w A0_3 l0_3.length l0_3) (hc0_3 : l0_3.length ≤ c0_3) (h : tree_All.f k a0_0 a0_1 a0_2 l0_3 a1 = some (r1, r2)) :
  Calls Try.prog 18 #[.agg #[.int .i64 a0_0, .int .i64 a0_1, .string a0_2, .slice A0_3 l0_3.length c0_3], .int .i64 a1] w fun e w' => ∃ v0_ : Value, e = .returned (.tuple #[v0_, .int .i64 r2]) ∧ Kd.R (Kd.slice 3 (Kd.int .i64)) 30 w' w.heap.size (fun _ => True) v0_ r1 ∧ Below w.heap.size w w' := by
 have hu := Try.underlying26; unfold tree_All.f at h; obtain ⟨b, hb, h⟩ := Option.bind_eq_some_iff.mp h; have HF := Aside0.mk hb; have HR := Aside0.mk hr0_3; have hB1 := below_alloc (below_alloc (Below.refl w.heap.size w) (.cells #[.int .i64 a0_0, .int .i64 a0_1, .string a0_2, .slice A0_3 l0_3.length c0_3] 26)) (.cells #[.int .i64 a1] 3); have HB := Aside0.mk hB1; have HN := Aside0.mk (blk_alloc (blk_new w (.cells #[.int .i64 a0_0, .int .i64 a0_1, .string a0_2, .slice A0_3 l0_3.length c0_3] 26)) (.cells #[.int .i64 a1] 3))
 have H3 : Aside0 (((w.alloc (.cells #[.int .i64 a0_0, .int .i64 a0_1, .string a0_2, .slice A0_3 l0_3.length c0_3] 26)).alloc (.cells #[.int .i64 a1] 3)).heap[w.heap.size + 1]? = some (.cells #[.int .i64 a1] 3 (0, 0))) := ⟨by
  have := blk_new (w.alloc (.cells #[.int .i64 a0_0, .int .i64 a0_1, .string a0_2, .slice A0_3 l0_3.length c0_3] 26)) (.cells #[.int .i64 a1] 3)
  simpa using this⟩
 clear hb hr0_3 hB1
 cases b with
 | false =>
  rw [if_neg (by decide)] at h; simp only [Option.some.injEq, Prod.mk.injEq] at h; obtain ⟨rfl, rfl⟩ := h; go_enter Try.func18, Try.ntmps18
  go_wp2_with (go_at_call 30; refine (tree_IsFormed.calls k _ _ _ _ _ _ _ _ (Kd.C_below HR.out HB.out) hc0_3 HF.out).mono ?_; rintro e w1 ⟨rfl, hb⟩; have HB1 := Aside0.mk (token_good.step HB.out hb); clear hb)
  go_ret2
  exact ⟨_, rfl, Kd.R_nil _ _ _ _ _, HB1.out⟩
 | true =>
  rw [if_pos rfl] at h; obtain ⟨l, hl, h⟩ := Option.bind_eq_some_iff.mp h; simp only [Option.some.injEq, Prod.mk.injEq] at h; obtain ⟨rfl, rfl⟩ := h; have HL := Aside0.mk hl; clear hl; go_enter Try.func18, Try.ntmps18
  go_wp2_with (go_at_call 30; refine (tree_IsFormed.calls k _ _ _ _ _ _ _ _ (Kd.C_below HR.out HB.out) hc0_3 HF.out).mono ?_; rintro e w1 ⟨rfl, hb⟩; have HB1 := Aside0.mk (token_good.step HB.out hb); have HN1 := Aside0.mk (blk_below HN.out hb); have H31 := Aside0.mk (blk_below H3.out hb); have z0 : w1.cell? ⟨w.heap.size, 0, none⟩ = some (.int .i64 a0_0) := Lib.cell_of_heap HN1.out 0; have z1 : w1.cell? ⟨w.heap.size, 1, none⟩ = some (.int .i64 a0_1) := Lib.cell_of_heap HN1.out 1; have z2 : w1.cell? ⟨w.heap.size, 2, none⟩ = some (.string a0_2) := Lib.cell_of_heap HN1.out 2; have z3 : w1.cell? ⟨w.heap.size, 3, none⟩ = some (.slice A0_3 l0_3.length c0_3) := Lib.cell_of_heap HN1.out 3; have HFb : Aside0 (((w1.alloc (.cells #[.slice none 0 0] 35)).alloc (.cells #[.nilFunc] 88)).heap[w1.heap.size + 1]? = some (.cells #[.nilFunc] 88 (0, 0))) := tree_All.second w1 _ _; have cF : ((w1.alloc (.cells #[.slice none 0 0] 35)).alloc (.cells #[.nilFunc] 88)).cell? ⟨w1.heap.size + 1, 0, none⟩ = some .nilFunc := Lib.cell_of_heap HFb.out 0; have fF := Lib.frozen_of_heap HFb.out 0; have hsz : w.heap.size + 2 ≤ w1.heap.size := (by have hq := hb.size; simp at hq; omega); have q0 : ((w1.alloc (.cells #[.slice none 0 0] 35)).alloc (.cells #[(.func (.func 56) #[] #[.pointer (some ⟨w.heap.size + 1, 0, none⟩), .pointer (some ⟨w1.heap.size, 0, none⟩), .pointer (some ⟨w1.heap.size + 1, 0, none⟩)])] 88)).cell? ⟨w.heap.size, 0, none⟩ = some (.int .i64 a0_0) := Lib.cell_of_heap (blk_alloc (blk_alloc HN1.out _) _) 0; have q1 : ((w1.alloc (.cells #[.slice none 0 0] 35)).alloc (.cells #[(.func (.func 56) #[] #[.pointer (some ⟨w.heap.size + 1, 0, none⟩), .pointer (some ⟨w1.heap.size, 0, none⟩), .pointer (some ⟨w1.heap.size + 1, 0, none⟩)])] 88)).cell? ⟨w.heap.size, 1, none⟩ = some (.int .i64 a0_1) := Lib.cell_of_heap (blk_alloc (blk_alloc HN1.out _) _) 1; have q2 : ((w1.alloc (.cells #[.slice none 0 0] 35)).alloc (.cells #[(.func (.func 56) #[] #[.pointer (some ⟨w.heap.size + 1, 0, none⟩), .pointer (some ⟨w1.heap.size, 0, none⟩), .pointer (some ⟨w1.heap.size + 1, 0, none⟩)])] 88)).cell? ⟨w.heap.size, 2, none⟩ = some (.string a0_2) := Lib.cell_of_heap (blk_alloc (blk_alloc HN1.out _) _) 2; have q3 : ((w1.alloc (.cells #[.slice none 0 0] 35)).alloc (.cells #[(.func (.func 56) #[] #[.pointer (some ⟨w.heap.size + 1, 0, none⟩), .pointer (some ⟨w1.heap.size, 0, none⟩), .pointer (some ⟨w1.heap.size + 1, 0, none⟩)])] 88)).cell? ⟨w.heap.size, 3, none⟩ = some (.slice A0_3 l0_3.length c0_3) := Lib.cell_of_heap (blk_alloc (blk_alloc HN1.out _) _) 3; have HCall := Aside0.mk (tree_All.walk_ok w a1 w1.heap.size (w.heap.size + 1) (w1.heap.size + 1) k ⟨a0_0, ⟨a0_1, a0_2⟩, l0_3⟩ A0_3 c0_3 [] (.slice none 0 0) [] (.slice none 0 0) l ((w1.alloc (.cells #[.slice none 0 0] 35)).alloc (.cells #[(.func (.func 56) #[] #[.pointer (some ⟨w.heap.size + 1, 0, none⟩), .pointer (some ⟨w1.heap.size, 0, none⟩), .pointer (some ⟨w1.heap.size + 1, 0, none⟩)])] 88)) hc0_3 HR.out (Kd.R_nil _ _ _ _ _) (blk_alloc (blk_new w1 _) _) (Kd.R_nil _ _ _ _ _) (blk_alloc (blk_alloc H31.out _) _) (tree_All.second w1 _ _).out (by omega) (by omega) (by omega) (below_alloc (below_alloc HB1.out _) _) HL.out); clear hb)
  refine HCall.out.mono ?_; rintro e w9 ⟨rfl, v9, h1, h2, h3, h4⟩; have e9 : w9.cell? ⟨w1.heap.size, 0, none⟩ = some v9 := Lib.cell_of_heap h1 0; have H2 := Aside0.mk h2; have H3 := Aside0.mk h3; clear h1 h2 h3 h4; go_wp2_with fail
  go_ret2
  exact ⟨_, rfl, H2.out, H3.out⟩

end Go.Proofs.Ytnafnieocpkkhaa.P

namespace Go.Proofs.Ytnafnieocpkkhaa.P
open Go.RowKit Go.Proofs.YtnafnieocpkkhaaW.PrintWords Go.Proofs.YtnafnieocpkkhaaW.PrintLast Go.Proofs.YtnafnieocpkkhaaW.PrintMore
attribute [local go_sem] max2_int min2_int max_two min_two max_three min_three max_four min_four
set_option linter.unusedVariables false
set_option linter.unusedSimpArgs false

def tree_text.all (g : S26 → List UInt8 → Option (List UInt8)) : List (S26) → List UInt8 → Option (List UInt8)
 | [], acc => some acc
 | x :: r, acc => (g x acc).bind fun a => tree_text.all g r a
def tree_text.go : Nat → S26 → List UInt8 → Option (List UInt8)
 | 0, _, _ => none
 | k + 1, n, acc => if acc.length + n.f1.f1.size ≤ 140737488355328 then tree_text.all (tree_text.go k) n.f2 (acc ++ n.f1.f1.data.toList) else none
def tree_text.f (k : Nat) (a0_0 : Int) (a0_1 : Int) (a0_2 : ByteArray) (l0_3 : List (S26)) : Option (ByteArray) := (tree_text.go k ⟨a0_0, ⟨a0_1, a0_2⟩, l0_3⟩ []).bind fun l => some ⟨l.toArray⟩
def tree_text.Holds (k : Nat) (w0 : World) (b : Nat) : Prop := ∀ (n : S26) (A : Option Addr) (cc : Nat) (acc r : List UInt8) (w : World), n.f2.length ≤ cc → Kd.C k26 w0 A n.f2.length n.f2 → Below w0.heap.size w0 w → Bld.IsB w0.heap.size b acc w → tree_text.go k n acc = some r →
 Calls Try.prog 83 #[.pointer (some ⟨b, 0, none⟩), .agg #[.int .i64 n.f0, .int .i64 n.f1.f0, .string n.f1.f1, .slice A n.f2.length cc]] w fun e w' => e = .returned (.tuple #[]) ∧ Bld.IsB w0.heap.size b r w' ∧ Below w0.heap.size w0 w'
set_option maxHeartbeats 8000000 in
set_option maxRecDepth 100000 in
theorem tree_text.write_ok (w0 : World) (b : Nat) : ∀ k, tree_text.Holds k w0 b := by
 have hu := Try.underlying26; have hu2 := Try.underlying23; intro k
 induction k with
 | zero =>
  intro n A cc acc r w hcc hC hB hI h
  simp [tree_text.go] at h
 | succ k ih =>
  intro n A cc acc r w hcc hC hB hI h; rw [tree_text.go] at h; obtain ⟨hlen, h⟩ := Ut.ite_some h; have HH := Aside0.mk h; have HC := Aside0.mk hC; have IH := Aside0.mk ih; have hmax : n.f2.length ≤ 9223372036854775807 := hC.2.1; have HB := Aside0.mk (below_alloc hB (.cells #[.int .i64 n.f0, .int .i64 n.f1.f0, .string n.f1.f1, .slice A n.f2.length cc] 26)); have HI := Aside0.mk (hI.alloc (.cells #[.int .i64 n.f0, .int .i64 n.f1.f0, .string n.f1.f1, .slice A n.f2.length cc] 26)); have HO := Aside0.mk (blk_new w (.cells #[.int .i64 n.f0, .int .i64 n.f1.f0, .string n.f1.f1, .slice A n.f2.length cc] 26)); have hbl := hI.lt; have HNE := Aside0.mk (show w.heap.size ≠ b by omega); clear h hC ih hB hI hbl; go_enter Try.func83, Try.ntmps83
  go_wp2_with (go_at_call 92; refine (Bld.write w0.heap.size b acc n.f1.f1 _ HI.out hlen (below_size HB.out)).mono ?_; rintro e w1 ⟨rfl, hI1, hb1, hk1⟩; have HI1 := Aside0.mk hI1; have HB1 := Aside0.mk (HB.out.trans hb1); have z3 : w1.cell? ⟨w.heap.size, 3, none⟩ = some (.slice A n.f2.length cc) := Lib.cell_of_heap (hk1 _ _ HO.out (fun e => HNE.out (Option.some.inj e)) (by intro c fz e; injection e with _ e2; exact absurd e2 (by decide))) 3; clear hI1 hb1 hk1)
  go_loopg [14] n.f2.length (fun kq v14 w' => ∃ (i : Nat) (ac : List UInt8), v14 = .int .i64 (i : Int) ∧ Aside0 (i + kq = n.f2.length) ∧ Aside0 (tree_text.all (tree_text.go k) (n.f2.drop i) ac = some r) ∧ Aside0 (Bld.IsB w0.heap.size b ac w') ∧ Aside0 (Below w0.heap.size w0 w'))
  case atStart => exact ⟨0, _, rfl, ⟨by omega⟩, HH, HI1, HB1⟩
  case round =>
   clear HH HI HB HI1 HB1 z3; obtain ⟨i, ac, rfl, HK, HH, HI, HB⟩ := hrel; by_cases hlt : i < n.f2.length
   ·have hd1 : decide ((i : Int) < (n.f2.length : Int)) = true := decide_eq_true (by omega); have H := HH.out; rw [List.drop_eq_getElem_cons hlt] at H; simp only [tree_text.all] at H; obtain ⟨a, ha, Hn⟩ := Option.bind_eq_some_iff.mp H; clear H
    have hrd : rd_T26 n.f2 (i : Int) = n.f2[i] := (by simp [rd_T26, hlt])
    obtain ⟨ad, A3, c3, e, hx0, hx1, hx2, hx3, hl3, hC3⟩ := at_T26 HC.out (i : Int) (by omega) (by omega); rw [hrd] at hx0 hx1 hx2 hx3 hl3 hC3; rw [Int.toNat_natCast] at hx0 hx1 hx2 hx3
    cases e
    replace hx0 := (HB.out.cell (World.block_lt_of_cell? w0 _ hx0)).trans hx0; replace hx1 := (HB.out.cell (World.block_lt_of_cell? w0 _ hx1)).trans hx1; replace hx2 := (HB.out.cell (World.block_lt_of_cell? w0 _ hx2)).trans hx2; replace hx3 := (HB.out.cell (World.block_lt_of_cell? w0 _ hx3)).trans hx3; clear hrd HH; generalize n.f2[i] = x at *; have HCall := Aside0.mk (IH.out x A3 c3 ac a (wr.alloc (.cells #[.int .i64 x.f0, .int .i64 x.f1.f0, .string x.f1.f1, .slice A3 x.f2.length c3] 26)) hl3 hC3 (below_alloc HB.out _) (HI.out.alloc _) ha); have HH2 := Aside0.mk Hn; clear Hn ha hl3 hC3
    cases gk with
    | zero => exact absurd hlt (by have := HK.out; omega)
    | succ kq' =>
    go_wp2_with (go_at_call 83; refine HCall.out.mono ?_; rintro e w2 ⟨rfl, h1, h2⟩; have H1 := Aside0.mk h1; have H2 := Aside0.mk h2; clear h1 h2)
    go_roundg kq'
    case measure => omega
    case rel => exact ⟨i + 1, _, by go_num, ⟨by have := HK.out; omega⟩, HH2, H1, H2⟩
   ·have hd1 : decide ((i : Int) < (n.f2.length : Int)) = false := decide_eq_false (by omega); have H := HH.out; rw [List.drop_of_length_le (by have := HK.out; omega)] at H; simp only [tree_text.all, Option.some.injEq] at H; subst H; go_wp2_with fail; go_end0; exact ⟨rfl, HI.out, HB.out⟩
set_option maxHeartbeats 8000000 in
set_option maxRecDepth 100000 in
theorem tree_text.calls (k : Nat) (a0_0 : Int) (a0_1 : Int) (a0_2 : ByteArray) (A0_3 : Option Addr) (c0_3 : Nat) (l0_3 : List (S26)) (r : ByteArray) (w : World) (hr0_3 : Kd.C k26 w A0_3 l0_3.length l0_3) (hc0_3 : l0_3.length ≤ c0_3) (h : tree_text.f k a0_0 a0_1 a0_2 l0_3 = some r) :
  Calls Try.prog 61 #[.agg #[.int .i64 a0_0, .int .i64 a0_1, .string a0_2, .slice A0_3 l0_3.length c0_3]] w fun e w' => e = .returned (.string r) ∧ Below w.heap.size w w' := by
 have hu := Try.underlying26; obtain ⟨l, hl, h⟩ := Option.bind_eq_some_iff.mp h; injection h with h; subst h; have hB := below_alloc (below_alloc (Below.refl w.heap.size w) (.cells #[.int .i64 a0_0, .int .i64 a0_1, .string a0_2, .slice A0_3 l0_3.length c0_3] 26)) (.cells #[.pointer none, .slice none 0 0] 114)
 have hI : Bld.IsB w.heap.size (w.heap.size + 1) [] ((w.alloc (.cells #[.int .i64 a0_0, .int .i64 a0_1, .string a0_2, .slice A0_3 l0_3.length c0_3] 26)).alloc (.cells #[.pointer none, .slice none 0 0] 114)) := by
  have := Bld.IsB.new (B := w.heap.size) (w := w.alloc (.cells #[.int .i64 a0_0, .int .i64 a0_1, .string a0_2, .slice A0_3 l0_3.length c0_3] 26)) (by simp)
  simpa using this
 have HF := Aside0.mk (tree_text.write_ok w (w.heap.size + 1) k ⟨a0_0, ⟨a0_1, a0_2⟩, l0_3⟩ A0_3 c0_3 [] l _ hc0_3 hr0_3 hB hI hl); clear hl hB hI hr0_3; go_enter Try.func61, Try.ntmps61
 go_wp2_with (first | (go_at_call 83; refine HF.out.mono ?_; rintro e w1 ⟨rfl, h1, h2⟩; have HI := Aside0.mk h1; have HB := Aside0.mk h2; clear h1 h2) | (go_at_call 84; refine (Bld.string w.heap.size (w.heap.size + 1) l _ HI.out (below_size HB.out)).mono ?_; rintro e w2 ⟨rfl, hb2⟩; have HB2 := Aside0.mk (HB.out.trans hb2); clear hb2))
 go_ret; exact ⟨rfl, HB2.out⟩

end Go.Proofs.Ytnafnieocpkkhaa.P

namespace Go.Proofs.Ytnafnieocpkkhaa.P
open Go.RowKit Go.Proofs.YtnafnieocpkkhaaW.PrintWords Go.Proofs.YtnafnieocpkkhaaW.PrintLast Go.Proofs.YtnafnieocpkkhaaW.PrintMore
attribute [local go_sem] max2_int min2_int max_two min_two max_three min_three max_four min_four
set_option linter.unusedVariables false
set_option linter.unusedSimpArgs false

/-! ### tree_Text: function 26 -/
def tree_Text.f (k : Nat) (a0_0 : Int) (a0_1 : Int) (a0_2 : ByteArray) (l0_3 : List (S26)) : Option (ByteArray × Int) := (tree_IsFormed.f k a0_0 a0_1 a0_2 l0_3).bind fun t233 => (if t233 = true then ((tree_text.f k a0_0 a0_1 a0_2 l0_3).bind fun t234 => (some (t234, 0))) else (some ((⟨#[]⟩ : ByteArray), 4)))
set_option maxHeartbeats 8000000 in
set_option maxRecDepth 100000 in
theorem tree_Text.calls (k : Nat) (a0_0 : Int) (a0_1 : Int) (a0_2 : ByteArray) (A0_3 : Option Addr) (c0_3 : Nat) (l0_3 : List (S26)) (r1 : ByteArray) (r2 : Int) (w : World) (hr0_3 : Kd.C k26 w A0_3 l0_3.length l0_3) (hc0_3 : l0_3.length ≤ c0_3) (h : tree_Text.f k a0_0 a0_1 a0_2 l0_3 = some (r1, r2)) :
  Calls Try.prog 26 #[.agg #[.int .i64 a0_0, .int .i64 a0_1, .string a0_2, .slice A0_3 l0_3.length c0_3]] w fun e w' => e = .returned (.tuple #[.string r1, .int .i64 r2]) ∧ Below w.heap.size w w' := by
 have hu26 := Try.underlying26; have HR0_3 := Aside0.mk hr0_3; have HC0_3 := Aside0.mk hc0_3; clear hr0_3 hc0_3; have HB := Aside0.mk (Below.refl w.heap.size w); have H : ((tree_IsFormed.f k a0_0 a0_1 a0_2 l0_3).bind fun t233 => (if t233 = true then ((tree_text.f k a0_0 a0_1 a0_2 l0_3).bind fun t234 => (some (t234, 0))) else (some ((⟨#[]⟩ : ByteArray), 4)))) = some (r1, r2) := h; clear h; replace H := zo H; obtain ⟨t233, A2, H⟩ := H; by_cases c3 : t233 = true
 ·subst c3; rw [if_pos rfl] at H; replace H := zo H; obtain ⟨t234, A4, H⟩ := H; simp only [Option.some.injEq, Prod.mk.injEq] at H; obtain ⟨rfl, rfl⟩ := H; go_enter Try.func26, Try.ntmps26
  go_wp2_with (first | ((with_reducible refine zD 1 rfl ?_); refine zx 1 #[.int .i64 a0_0, .int .i64 a0_1, .string a0_2, .slice A0_3 l0_3.length c0_3] 26 ?_; intro gb232 hg w5 hbox hb; have BK232 := Aside0.mk (hbox); have GW232 := (zq hg : Aside0 (w.heap.size ≤ gb232)); have GE232 := GW232; replace HB := (zB hb); clear hb hbox hg; obtain ⟨hcz6_0, hcz6_1, hcz6_2, hcz6_3⟩ := zc4 BK232; obtain ⟨hfz6_0, hfz6_1, hfz6_2, hfz6_3⟩ := zz4 BK232) | ((with_reducible refine zG 30 rfl ?_); refine zg 5 Try.func30 ((tree_IsFormed.calls k a0_0 a0_1 a0_2 _ _ l0_3 true _ ?side1 ?side2 A2.out).mono ?_); (case side1 => exact zC HR0_3); (case side2 => exact HC0_3.out); rintro e w7 ⟨rfl, hb⟩; refine ⟨_, rfl, ?_⟩; replace BK232 := (zK BK232 hb); replace HB := (zB hb); (try clear hb); (try clear hb2); (try clear hk); (try clear hi); obtain ⟨hcz8_0, hcz8_1, hcz8_2, hcz8_3⟩ := zc4 BK232; obtain ⟨hfz8_0, hfz8_1, hfz8_2, hfz8_3⟩ := zz4 BK232) | ((with_reducible refine zG 61 rfl ?_); refine zg 8 Try.func61 ((tree_text.calls k a0_0 a0_1 a0_2 _ _ l0_3 t234 _ ?side1 ?side2 A4.out).mono ?_); (case side1 => exact zC HR0_3); (case side2 => exact HC0_3.out); rintro e w9 ⟨rfl, hb⟩; refine ⟨_, rfl, ?_⟩; replace BK232 := (zK BK232 hb); replace HB := (zB hb); (try clear hb); (try clear hb2); (try clear hk); (try clear hi)))
  go_ret2
  exact ⟨zr, zb⟩
 ·replace c3 := Bool.eq_false_iff.mpr c3; subst c3; replace H := zf H; simp only [Option.some.injEq, Prod.mk.injEq] at H; obtain ⟨rfl, rfl⟩ := H; go_enter Try.func26, Try.ntmps26
  go_wp2_with (first | ((with_reducible refine zD 1 rfl ?_); refine zx 1 #[.int .i64 a0_0, .int .i64 a0_1, .string a0_2, .slice A0_3 l0_3.length c0_3] 26 ?_; intro gb232 hg w10 hbox hb; have BK232 := Aside0.mk (hbox); have GW232 := (zq hg : Aside0 (w.heap.size ≤ gb232)); have GE232 := GW232; replace HB := (zB hb); clear hb hbox hg; obtain ⟨hcz11_0, hcz11_1, hcz11_2, hcz11_3⟩ := zc4 BK232; obtain ⟨hfz11_0, hfz11_1, hfz11_2, hfz11_3⟩ := zz4 BK232) | ((with_reducible refine zG 30 rfl ?_); refine zg 5 Try.func30 ((tree_IsFormed.calls k a0_0 a0_1 a0_2 _ _ l0_3 false _ ?side1 ?side2 A2.out).mono ?_); (case side1 => exact zC HR0_3); (case side2 => exact HC0_3.out); rintro e w12 ⟨rfl, hb⟩; refine ⟨_, rfl, ?_⟩; replace BK232 := (zK BK232 hb); replace HB := (zB hb); (try clear hb); (try clear hb2); (try clear hk); (try clear hi)))
  go_ret2
  exact ⟨zr, zb⟩

/-! ### tree_count: function 64 -/
mutual
def tree_count.l0 : Nat → Int → Int → List (S26) → Int → Int → Option (Int × Int)
 | 0, _, _, _, _, _ => none
 | k + 1, x4, x5, x11, x12, x13 => if x13 < x12 then (if 0 ≤ x13 then (if x13 < (x11.length : Int) then ((tree_count.f k ((rd_T26 x11 x13).f0) ((rd_T26 x11 x13).f1.f0) ((rd_T26 x11 x13).f1.f1) ((rd_T26 x11 x13).f2)).bind fun bt238 => (tree_count.l0 k (wrap64 (x4 + bt238.1)) (mx x5 (wrap64 (bt238.2 + 1))) x11 x12 (wrap64 (x13 + 1)))) else (none)) else (none)) else (some (x4, x5))
def tree_count.f : Nat → Int → Int → ByteArray → List (S26) → Option (Int × Int)
 | 0, _, _, _, _ => none
 | k + 1, a0_0, a0_1, a0_2, l0_3 => tree_count.l0 k 1 0 l0_3 (l0_3.length : Int) 0
end
set_option maxHeartbeats 8000000 in
set_option maxRecDepth 100000 in
theorem tree_count.calls (k : Nat) : ∀ (a0_0 : Int) (a0_1 : Int) (a0_2 : ByteArray) (A0_3 : Option Addr) (c0_3 : Nat) (l0_3 : List (S26)) (r1 : Int) (r2 : Int) (w : World) (hr0_3 : Kd.C k26 w A0_3 l0_3.length l0_3) (hc0_3 : l0_3.length ≤ c0_3) (h : tree_count.f k a0_0 a0_1 a0_2 l0_3 = some (r1, r2)),
  Calls Try.prog 64 #[.agg #[.int .i64 a0_0, .int .i64 a0_1, .string a0_2, .slice A0_3 l0_3.length c0_3]] w fun e w' => e = .returned (.tuple #[.int .i64 r1, .int .i64 r2]) ∧ Below w.heap.size w w' := by
 induction k using Nat.strongRecOn with
 | _ k ih =>
 intro a0_0 a0_1 a0_2 A0_3 c0_3 l0_3 r1 r2 w hr0_3 hc0_3 h
 cases k with
 | zero => exact absurd h (by simp [tree_count.f])
 | succ k =>
 simp only [tree_count.f] at h; have hu26 := Try.underlying26; have HR0_3 := Aside0.mk hr0_3; have HC0_3 := Aside0.mk hc0_3; clear hr0_3 hc0_3; have HB := Aside0.mk (Below.refl w.heap.size w); have H : (tree_count.l0 k 1 0 l0_3 (l0_3.length : Int) 0) = some (r1, r2) := h; clear h; have H' := Aside0.mk H; clear H; go_enter Try.func64, Try.ntmps64
 go_wp2_with (first | ((with_reducible refine zD 1 rfl ?_); refine zx 1 #[.int .i64 a0_0, .int .i64 a0_1, .string a0_2, .slice A0_3 l0_3.length c0_3] 26 ?_; intro gb235 hg w2 hbox hb; have BK235 := Aside0.mk (hbox); have GW235 := (zq hg : Aside0 (w.heap.size ≤ gb235)); have GE235 := GW235; replace HB := (zB hb); clear hb hbox hg; obtain ⟨hcz3_0, hcz3_1, hcz3_2, hcz3_3⟩ := zc4 BK235; obtain ⟨hfz3_0, hfz3_1, hfz3_2, hfz3_3⟩ := zz4 BK235))
 go_loopg [4, 5, 13] k (fun kq v4 v5 v13 w' => ∃ (x4_1 : Int) (x5_1 : Int) (x13_1 : Int), v4 = .int .i64 x4_1 ∧ v5 = .int .i64 x5_1 ∧ v13 = .int .i64 x13_1 ∧ Aside0 (tree_count.l0 kq x4_1 x5_1 l0_3 (l0_3.length : Int) x13_1 = some (r1, r2)) ∧ Aside0 (kq ≤ k) ∧ Aside0 (w'.heap[gb235]? = some (.cells #[.int .i64 a0_0, .int .i64 a0_1, .string a0_2, (.slice A0_3 l0_3.length c0_3)] 26 (0, 0))) ∧ Aside0 (Below w.heap.size w w'))
 case atStart => exact ⟨(1), (0), (0), zs, zs, zs, H', ⟨Nat.le_refl _⟩, (zA BK235), ⟨zb⟩⟩
 case round =>
  clear H'; obtain ⟨x4_1, x5_1, x13_1, rfl, rfl, rfl, HA, HK1, BK235, HB⟩ := hrel
  cases gk with
  | zero => exact absurd HA.out (by simp [tree_count.l0])
  | succ k1 =>
   have H := HA.out; clear HA; simp only [tree_count.l0] at H; by_cases c4 : x13_1 < (l0_3.length : Int)
   ·rw [if_pos c4] at H; have c4b0 := decide_eq_true c4; clear c4; replace H := zi1 H; obtain ⟨c5b0, H⟩ := H; replace H := zi1 H; obtain ⟨c6b0, H⟩ := H; replace H := Option.bind_eq_some_iff.mp H; obtain ⟨⟨t238, t239⟩, A70, H⟩ := H; replace H : (tree_count.l0 k1 (wrap64 (x4_1 + t238)) (mx x5_1 (wrap64 (t239 + 1))) l0_3 (l0_3.length : Int) (wrap64 (x13_1 + 1))) = some (r1, r2) := H; have A7 := Aside0.mk A70; clear A70
    obtain ⟨ji8, hji8⟩ : ∃ j_ : Int, (mx x5_1 (wrap64 (t239 + 1))) = j_ := ⟨_, rfl⟩
    replace H : (tree_count.l0 k1 (wrap64 (x4_1 + t238)) ji8 l0_3 (l0_3.length : Int) (wrap64 (x13_1 + 1))) = some (r1, r2) := by first | (rw [hji8] at H; exact H) | (simp only [hji8] at H ⊢; exact H)
    (try rw [hji8] at A7)
    have hji8_ : (if x5_1 < (wrap64 (t239 + 1)) then (wrap64 (t239 + 1)) else x5_1) = ji8 := hji8; have H' := Aside0.mk H; clear H; have p236 : 0 ≤ (x13_1 : Int) := zt; have q236 : x13_1 < (l0_3.length : Int) := zt; obtain ⟨ad236, A236_3, c236_3, e236, hx236_0, hx236_1, hx236_2, hx236_3, hl236_3, hi236_3⟩ := at_T26 HR0_3.out x13_1 p236 q236
    cases e236
    replace hx236_0 := zh HB hx236_0; replace hx236_1 := zh HB hx236_1; replace hx236_2 := zh HB hx236_2; replace hx236_3 := zh HB hx236_3; have HR236_3 := Aside0.mk hi236_3; have HC236_3 := Aside0.mk hl236_3; clear hi236_3 hl236_3; replace p236 := eq_true p236; replace q236 := eq_true q236
    go_wp2_with (first | ((with_reducible refine zD 7 rfl ?_); refine zx 7 #[.int .i64 0, .int .i64 0, .string (⟨#[]⟩ : ByteArray), .slice none 0 0] 26 ?_; intro gb237 hg w9 hbox hb; have BK237 := Aside0.mk (hbox); have GW237 := (zq hg : Aside0 (w.heap.size ≤ gb237)); have GE237 := GW237; replace HB := (zB hb); have NB235_237 := (zl hg BK235 : Aside0 (gb235 ≠ gb237)); have NB237_235 := (zl' hg BK235 : Aside0 (gb237 ≠ gb235)); replace BK235 := (zK BK235 hb); clear hb hbox hg; have hnb10 := NB237_235.out; have hnc10 := NB235_237.out; obtain ⟨hcz11_0, hcz11_1, hcz11_2, hcz11_3⟩ := zc4 BK237; obtain ⟨hfz11_0, hfz11_1, hfz11_2, hfz11_3⟩ := zz4 BK237) | ((with_reducible refine zG 64 rfl ?_); refine zg 19 Try.func64 ((ih k1 (by have := HK1.out; omega) ((rd_T26 l0_3 x13_1).f0) ((rd_T26 l0_3 x13_1).f1.f0) ((rd_T26 l0_3 x13_1).f1.f1) _ _ ((rd_T26 l0_3 x13_1).f2) t238 t239 _ ?side1 ?side2 A7.out).mono ?_); (case side1 => exact Kd.C_below HR236_3.out zb); (case side2 => exact HC236_3.out); rintro e w12 ⟨rfl, hb⟩; refine ⟨_, rfl, ?_⟩; replace BK235 := (zw2 gb235 #[.int .i64 a0_0, .int .i64 a0_1, .string a0_2, .slice (some ad236) l0_3.length c0_3] 26 hb); replace BK237 := (zw2 gb237 #[.int .i64 ((rd_T26 l0_3 x13_1).f0), .int .i64 ((rd_T26 l0_3 x13_1).f1.f0), .string ((rd_T26 l0_3 x13_1).f1.f1), .slice A236_3 ((rd_T26 l0_3 x13_1).f2).length c236_3] 26 hb); replace HB := (zB hb); (try clear hb); (try clear hb2); (try clear hk); (try clear hi)))
    go_roundg k1
    case measure => have := HK1.out; omega
    case rel => exact ⟨(wrap64 (x4_1 + t238)), (ji8), (wrap64 (x13_1 + 1)), zs, (by first | rfl | (simp; done) | (simp only [← hji8] <;> (first | rfl | simp)) | (simp [*]; done)), zs, H', zk, (zA BK235), ⟨zb⟩⟩
   ·rw [if_neg c4] at H; have c4b0 := decide_eq_false c4; clear c4; simp only [Option.some.injEq, Prod.mk.injEq] at H; obtain ⟨rfl, rfl⟩ := H; go_wp2
    go_ret2
    exact ⟨zr, zb⟩

/-! ### tree_Count: function 29 -/
def tree_Count.f (k : Nat) (a0_0 : Int) (a0_1 : Int) (a0_2 : ByteArray) (l0_3 : List (S26)) : Option (Int × Int × Int) := (tree_IsFormed.f k a0_0 a0_1 a0_2 l0_3).bind fun t241 => (if t241 = true then ((tree_count.f k a0_0 a0_1 a0_2 l0_3).bind fun bt242 => (some (bt242.1, bt242.2, 0))) else (some (0, 0, 4)))
set_option maxHeartbeats 8000000 in
set_option maxRecDepth 100000 in
theorem tree_Count.calls (k : Nat) (a0_0 : Int) (a0_1 : Int) (a0_2 : ByteArray) (A0_3 : Option Addr) (c0_3 : Nat) (l0_3 : List (S26)) (r1 : Int) (r2 : Int) (r3 : Int) (w : World) (hr0_3 : Kd.C k26 w A0_3 l0_3.length l0_3) (hc0_3 : l0_3.length ≤ c0_3) (h : tree_Count.f k a0_0 a0_1 a0_2 l0_3 = some (r1, r2, r3)) :
  Calls Try.prog 29 #[.agg #[.int .i64 a0_0, .int .i64 a0_1, .string a0_2, .slice A0_3 l0_3.length c0_3]] w fun e w' => e = .returned (.tuple #[.int .i64 r1, .int .i64 r2, .int .i64 r3]) ∧ Below w.heap.size w w' := by
 have hu26 := Try.underlying26; have HR0_3 := Aside0.mk hr0_3; have HC0_3 := Aside0.mk hc0_3; clear hr0_3 hc0_3; have HB := Aside0.mk (Below.refl w.heap.size w); have H : ((tree_IsFormed.f k a0_0 a0_1 a0_2 l0_3).bind fun t241 => (if t241 = true then ((tree_count.f k a0_0 a0_1 a0_2 l0_3).bind fun bt242 => (some (bt242.1, bt242.2, 0))) else (some (0, 0, 4)))) = some (r1, r2, r3) := h; clear h; replace H := zo H; obtain ⟨t241, A2, H⟩ := H; by_cases c3 : t241 = true
 ·subst c3; rw [if_pos rfl] at H; replace H := Option.bind_eq_some_iff.mp H; obtain ⟨⟨t242, t243⟩, A40, H⟩ := H; replace H : (some (t242, t243, 0)) = some (r1, r2, r3) := H; have A4 := Aside0.mk A40; clear A40; simp only [Option.some.injEq, Prod.mk.injEq] at H; obtain ⟨rfl, rfl, rfl⟩ := H; go_enter Try.func29, Try.ntmps29
  go_wp2_with (first | ((with_reducible refine zD 1 rfl ?_); refine zx 1 #[.int .i64 a0_0, .int .i64 a0_1, .string a0_2, .slice A0_3 l0_3.length c0_3] 26 ?_; intro gb240 hg w5 hbox hb; have BK240 := Aside0.mk (hbox); have GW240 := (zq hg : Aside0 (w.heap.size ≤ gb240)); have GE240 := GW240; replace HB := (zB hb); clear hb hbox hg; obtain ⟨hcz6_0, hcz6_1, hcz6_2, hcz6_3⟩ := zc4 BK240; obtain ⟨hfz6_0, hfz6_1, hfz6_2, hfz6_3⟩ := zz4 BK240) | ((with_reducible refine zG 30 rfl ?_); refine zg 8 Try.func30 ((tree_IsFormed.calls k a0_0 a0_1 a0_2 _ _ l0_3 true _ ?side1 ?side2 A2.out).mono ?_); (case side1 => exact zC HR0_3); (case side2 => exact HC0_3.out); rintro e w7 ⟨rfl, hb⟩; refine ⟨_, rfl, ?_⟩; replace BK240 := (zK BK240 hb); replace HB := (zB hb); (try clear hb); (try clear hb2); (try clear hk); (try clear hi); obtain ⟨hcz8_0, hcz8_1, hcz8_2, hcz8_3⟩ := zc4 BK240; obtain ⟨hfz8_0, hfz8_1, hfz8_2, hfz8_3⟩ := zz4 BK240) | ((with_reducible refine zG 64 rfl ?_); refine zg 12 Try.func64 ((tree_count.calls k a0_0 a0_1 a0_2 _ _ l0_3 t242 t243 _ ?side1 ?side2 A4.out).mono ?_); (case side1 => exact zC HR0_3); (case side2 => exact HC0_3.out); rintro e w9 ⟨rfl, hb⟩; refine ⟨_, rfl, ?_⟩; replace BK240 := (zK BK240 hb); replace HB := (zB hb); (try clear hb); (try clear hb2); (try clear hk); (try clear hi)))
  go_ret3
  exact ⟨zr, zb⟩
 ·replace c3 := Bool.eq_false_iff.mpr c3; subst c3; replace H := zf H; simp only [Option.some.injEq, Prod.mk.injEq] at H; obtain ⟨rfl, rfl, rfl⟩ := H; go_enter Try.func29, Try.ntmps29
  go_wp2_with (first | ((with_reducible refine zD 1 rfl ?_); refine zx 1 #[.int .i64 a0_0, .int .i64 a0_1, .string a0_2, .slice A0_3 l0_3.length c0_3] 26 ?_; intro gb240 hg w10 hbox hb; have BK240 := Aside0.mk (hbox); have GW240 := (zq hg : Aside0 (w.heap.size ≤ gb240)); have GE240 := GW240; replace HB := (zB hb); clear hb hbox hg; obtain ⟨hcz11_0, hcz11_1, hcz11_2, hcz11_3⟩ := zc4 BK240; obtain ⟨hfz11_0, hfz11_1, hfz11_2, hfz11_3⟩ := zz4 BK240) | ((with_reducible refine zG 30 rfl ?_); refine zg 8 Try.func30 ((tree_IsFormed.calls k a0_0 a0_1 a0_2 _ _ l0_3 false _ ?side1 ?side2 A2.out).mono ?_); (case side1 => exact zC HR0_3); (case side2 => exact HC0_3.out); rintro e w12 ⟨rfl, hb⟩; refine ⟨_, rfl, ?_⟩; replace BK240 := (zK BK240 hb); replace HB := (zB hb); (try clear hb); (try clear hb2); (try clear hk); (try clear hi)))
  go_ret3
  exact ⟨zr, zb⟩

/-! ### marginalialaw05_leaf: function 42 -/
def marginalialaw05_leaf.f (k : Nat) (a0 : ByteArray) : Option (Int × Int × ByteArray × (List (S26))) := (marginaliaref03_Next.f k a0 0).bind fun bt245 => (some (1, bt245.1, bt245.2, ([] : List (S26))))
set_option maxHeartbeats 8000000 in
set_option maxRecDepth 100000 in
theorem marginalialaw05_leaf.calls (k : Nat) (a0 : ByteArray) (r1 : Int) (r2 : Int) (r3 : ByteArray) (r4 : List (S26)) (w : World) (h : marginalialaw05_leaf.f k a0 = some (r1, r2, r3, r4)) :
  Calls Try.prog 42 #[.string a0] w fun e w' => ∃ v3_ : Value, e = .returned (.agg #[.int .i64 r1, .int .i64 r2, .string r3, v3_]) ∧ Kd.R k26 26 w' w.heap.size (fun _ => True) v3_ r4 ∧ Below w.heap.size w w' := by
 have hu26 := Try.underlying26; have HB := Aside0.mk (Below.refl w.heap.size w); have H : ((marginaliaref03_Next.f k a0 0).bind fun bt245 => (some (1, bt245.1, bt245.2, ([] : List (S26))))) = some (r1, r2, r3, r4) := h; clear h; replace H := Option.bind_eq_some_iff.mp H; obtain ⟨⟨t245, t246⟩, A20, H⟩ := H; replace H : (some (1, t245, t246, ([] : List (S26)))) = some (r1, r2, r3, r4) := H; have A2 := Aside0.mk A20; clear A20; simp only [Option.some.injEq, Prod.mk.injEq] at H; obtain ⟨rfl, rfl, rfl, rfl⟩ := H; go_enter Try.func42, Try.ntmps42
 go_wp2_with (first | ((with_reducible refine zD 2 rfl ?_); refine zx 2 #[.int .i64 0, .int .i64 0, .string (⟨#[]⟩ : ByteArray), .slice none 0 0] 26 ?_; intro gb244 hg w3 hbox hb; have BK244 := Aside0.mk (hbox); have GW244 := (zq hg : Aside0 (w.heap.size ≤ gb244)); have GE244 := GW244; replace HB := (zB hb); clear hb hbox hg) | ((with_reducible refine zG 75 rfl ?_); refine zg 4 Try.func75 ((marginaliaref03_Next.calls k a0 0 t245 t246 _ A2.out).mono ?_); rintro e w4 ⟨rfl, hb⟩; refine ⟨_, rfl, ?_⟩; replace BK244 := (zK BK244 hb); replace HB := (zB hb); (try clear hb); (try clear hb2); (try clear hk); (try clear hi); obtain ⟨hcz5_0, hcz5_1, hcz5_2, hcz5_3⟩ := zc4 BK244; obtain ⟨hfz5_0, hfz5_1, hfz5_2, hfz5_3⟩ := zz4 BK244))
 refine bodyPost_ret (results_cell_row rfl _ _ gb244 26 #[.int .i64 1, .int .i64 t245, .string t246, .slice none 0 0] (0, 0) _ rfl zw Try.underlying26 rfl (by kernel_rfl)) rfl ?_; exact ⟨_, zr, by first | exact Kd.R_nil _ _ _ _ _ | exact Kd.N_nil _ _ _ _ _ | exact Kd.V_nil _ _ _ _ _ | exact Kd.Q_nil _ _ _ _ _ | exact Kd.S_nil _ _ _ _ _, zb⟩

end Go.Proofs.Ytnafnieocpkkhaa.P

namespace Go.Proofs.Ytnafnieocpkkhaa.P
open Go.RowKit Go.Proofs.YtnafnieocpkkhaaW.PrintWords Go.Proofs.YtnafnieocpkkhaaW.PrintLast Go.Proofs.YtnafnieocpkkhaaW.PrintMore
attribute [local go_sem] max2_int min2_int max_two min_two max_three min_three max_four min_four
set_option linter.unusedVariables false
set_option linter.unusedSimpArgs false

def marginalialaw05_sample.lf (k : Int) (b : UInt8) : S26 := ⟨1, ⟨k, ⟨#[b]⟩⟩, []⟩
def marginalialaw05_sample.nm (b : UInt8) : S26 := ⟨23, ⟨0, ⟨#[]⟩⟩, [marginalialaw05_sample.lf 3 b]⟩
def marginalialaw05_sample.ar : S26 := ⟨22, ⟨0, ⟨#[]⟩⟩, [marginalialaw05_sample.lf 7 40, marginalialaw05_sample.nm 120, marginalialaw05_sample.lf 1 32, marginalialaw05_sample.lf 7 41]⟩
def marginalialaw05_sample.kids : List (S26) := [marginalialaw05_sample.nm 102, marginalialaw05_sample.ar]
def marginalialaw05_sample.f : Option (Int × Int × ByteArray × List (S26)) := some (21, 0, ⟨#[]⟩, marginalialaw05_sample.kids)
theorem marginalialaw05_sample.l40 : marginalialaw05_leaf.f 60 ⟨#[40]⟩ = some (1, 7, ⟨#[40]⟩, []) := by kernel_rfl
theorem marginalialaw05_sample.l120 : marginalialaw05_leaf.f 60 ⟨#[120]⟩ = some (1, 3, ⟨#[120]⟩, []) := by kernel_rfl
theorem marginalialaw05_sample.l32 : marginalialaw05_leaf.f 60 ⟨#[32]⟩ = some (1, 1, ⟨#[32]⟩, []) := by kernel_rfl
theorem marginalialaw05_sample.l41 : marginalialaw05_leaf.f 60 ⟨#[41]⟩ = some (1, 7, ⟨#[41]⟩, []) := by kernel_rfl
theorem marginalialaw05_sample.l102 : marginalialaw05_leaf.f 60 ⟨#[102]⟩ = some (1, 3, ⟨#[102]⟩, []) := by kernel_rfl
/-- A literal of elements that the call has made. -/
theorem marginalialaw05_sample.lit {α : Type} (d : Kd α) {W : World} {base e : Nat} {xs : List α} {inner : List Value} (hrep : Reps (d.M W base (fun _ => True)) d.sz xs inner) (hbase : base ≤ W.heap.size) (hm : xs.length ≤ 1000) : d.R e (W.alloc (.cells inner.toArray e)) base (fun _ => True) (.slice (some ⟨W.heap.size, 0, none⟩) xs.length xs.length) xs := by
 refine ⟨fun _ _ => trivial, inner, ?_, ?_⟩
 ·have h2 := World.ownsRow_lit (base := base) (e := e) (size := d.sz) W inner.toArray xs.length hbase (by unfold maxLen; omega) (by simpa using hrep.1)
  simpa using h2
 ·refine hrep.imp_ (fun p c hp => d.M_mono (fun k hk => ⟨trivial, fun he => ?_⟩) (Kd.M_below (d.M_bound hp) (below_alloc (Below.refl _ _) _)))
  have h3 : k = W.heap.size := (by simpa [Value.ownBlock] using he)
  have := hk.2.2.1
  omega
/-- A leaf's cells, in a later world. -/
theorem marginalialaw05_sample.leafM {w W : World} {base : Nat} {k : Int} {b : UInt8} {v : Value} (h : Kd.R k26 26 w base (fun _ => True) v []) (hb : Below w.heap.size w W) : (k26).M W base (fun _ => True) (marginalialaw05_sample.lf k b) [.int .i64 1, .int .i64 k, .string ⟨#[b]⟩, v] := k26_mkM W base _ (marginalialaw05_sample.lf k b) (Kd.R_below h hb)
set_option maxHeartbeats 8000000 in
set_option maxRecDepth 100000 in
theorem marginalialaw05_sample.calls (r1 : Int) (r2 : Int) (r3 : ByteArray) (r4 : List (S26)) (w : World) (h : marginalialaw05_sample.f = some (r1, r2, r3, r4)) :
  Calls Try.prog 44 #[] w fun e w' => ∃ v3_ : Value, e = .returned (.agg #[.int .i64 r1, .int .i64 r2, .string r3, v3_]) ∧ Kd.R k26 26 w' w.heap.size (fun _ => True) v3_ r4 ∧ Below w.heap.size w w' := by
 have hu := Try.underlying26; simp only [marginalialaw05_sample.f, Option.some.injEq, Prod.mk.injEq] at h; obtain ⟨rfl, rfl, rfl, rfl⟩ := h; have HB0 := Aside0.mk (Below.refl (w.alloc (.cells #[.int .i64 0, .int .i64 0, .string (⟨#[]⟩ : ByteArray), .slice none 0 0] 26)).heap.size (w.alloc (.cells #[.int .i64 0, .int .i64 0, .string (⟨#[]⟩ : ByteArray), .slice none 0 0] 26))); have HG0 := Aside0.mk (blk_new w (.cells #[.int .i64 0, .int .i64 0, .string (⟨#[]⟩ : ByteArray), .slice none 0 0] 26))
 have HS0 : Aside0 ((w.alloc (.cells #[.int .i64 0, .int .i64 0, .string (⟨#[]⟩ : ByteArray), .slice none 0 0] 26)).heap.size = w.heap.size + 1) := ⟨by simp⟩
 have HWB := Aside0.mk (below_alloc (Below.refl w.heap.size w) (.cells #[.int .i64 0, .int .i64 0, .string (⟨#[]⟩ : ByteArray), .slice none 0 0] 26)); generalize hw0 : w.alloc (.cells #[.int .i64 0, .int .i64 0, .string (⟨#[]⟩ : ByteArray), .slice none 0 0] 26) = w0 at *; have HW0 := Aside0.mk hw0; clear hw0; go_enter Try.func44, Try.ntmps44
 go_upto_region 1 with fail
 rw [HW0.out]; go_wp2_with fail; refine (marginalialaw05_leaf.calls 60 _ _ _ _ _ _ marginalialaw05_sample.l40).mono ?_; rintro e w1 ⟨v, rfl, hR, hb⟩; obtain ⟨A1, c1, hv, _, _⟩ := Kd.R_reads hR; subst hv; have HR1_1 := Aside0.mk (Kd.R_lower hR HB0.out.size); have HB1 := Aside0.mk (token_good.step HB0.out hb); have HG1 := Aside0.mk (blk_below HG0.out hb); clear hR hb HB0 HG0; go_wp2_with fail; refine (marginalialaw05_leaf.calls 60 _ _ _ _ _ _ marginalialaw05_sample.l120).mono ?_; rintro e w2 ⟨v, rfl, hR, hb⟩; obtain ⟨A2, c2, hv, _, _⟩ := Kd.R_reads hR; subst hv; have HR2_2 := Aside0.mk (Kd.R_lower hR HB1.out.size); have HB2 := Aside0.mk (token_good.step HB1.out hb); have HG2 := Aside0.mk (blk_below HG1.out hb); have HR1_2 := Aside0.mk (Kd.R_below HR1_1.out hb); clear hR hb HB1 HG1 HR1_1; have HRx_2 := Aside0.mk (marginalialaw05_sample.lit (e := 26) k26 (W := w2) (base := w0.heap.size) (xs := [marginalialaw05_sample.lf 3 120]) (inner := [.int .i64 1, .int .i64 3, .string ⟨#[120]⟩, .slice A2 0 c2]) (show Reps _ 4 _ _ from by simpa using Reps.snoc (Reps.none _ _) (marginalialaw05_sample.leafM (b := 120) HR2_2.out (Below.refl _ _)) rfl) HB2.out.size (by simp)); go_wp2_with fail; refine (marginalialaw05_leaf.calls 60 _ _ _ _ _ _ marginalialaw05_sample.l32).mono ?_; rintro e w3 ⟨v, rfl, hR, hb⟩; obtain ⟨A3, c3, hv, _, _⟩ := Kd.R_reads hR; subst hv; have HR3_3 := Aside0.mk (Kd.R_lower hR (below_alloc HB2.out (.cells #[.int .i64 1, .int .i64 3, .string ⟨#[120]⟩, .slice A2 0 c2] 26)).size); have HB3 := Aside0.mk (token_good.step (below_alloc HB2.out (.cells #[.int .i64 1, .int .i64 3, .string ⟨#[120]⟩, .slice A2 0 c2] 26)) hb); have HG3 := Aside0.mk (blk_below (blk_alloc HG2.out (.cells #[.int .i64 1, .int .i64 3, .string ⟨#[120]⟩, .slice A2 0 c2] 26)) hb); have HR1_3 := Aside0.mk (Kd.R_below (Kd.R_alloc HR1_2.out (.cells #[.int .i64 1, .int .i64 3, .string ⟨#[120]⟩, .slice A2 0 c2] 26)) hb); have HRx_3 := Aside0.mk (Kd.R_below HRx_2.out hb); clear hR hb HB2 HG2 HR1_2 HRx_2; go_wp2_with fail; refine (marginalialaw05_leaf.calls 60 _ _ _ _ _ _ marginalialaw05_sample.l41).mono ?_; rintro e w4 ⟨v, rfl, hR, hb⟩; obtain ⟨A4, c4, hv, _, _⟩ := Kd.R_reads hR; subst hv; have HR4_4 := Aside0.mk (Kd.R_lower hR HB3.out.size); have HB4 := Aside0.mk (token_good.step HB3.out hb); have HG4 := Aside0.mk (blk_below HG3.out hb); have HR1_4 := Aside0.mk (Kd.R_below HR1_3.out hb); have HRx_4 := Aside0.mk (Kd.R_below HRx_3.out hb); have HR3_4 := Aside0.mk (Kd.R_below HR3_3.out hb); clear hR hb HB3 HG3 HR1_3 HRx_3 HR3_3; have HRy_4 := Aside0.mk (marginalialaw05_sample.lit (e := 26) k26 (W := w4) (base := w0.heap.size) (xs := marginalialaw05_sample.ar.f2) (inner := [.int .i64 1, .int .i64 7, .string ⟨#[40]⟩, .slice A1 0 c1, .int .i64 23, .int .i64 0, .string (⟨#[]⟩ : ByteArray), .slice (some ⟨w2.heap.size, 0, none⟩) 1 1, .int .i64 1, .int .i64 1, .string ⟨#[32]⟩, .slice A3 0 c3, .int .i64 1, .int .i64 7, .string ⟨#[41]⟩, .slice A4 0 c4]) (show Reps _ 4 _ _ from by simpa [marginalialaw05_sample.ar, marginalialaw05_sample.nm] using Reps.snoc (Reps.snoc (Reps.snoc (Reps.snoc (Reps.none _ _) (marginalialaw05_sample.leafM (b := 40) HR1_4.out (Below.refl _ _)) rfl) (k26_mkM w4 w0.heap.size _ (marginalialaw05_sample.nm 120) HRx_4.out) rfl) (marginalialaw05_sample.leafM (b := 32) HR3_4.out (Below.refl _ _)) rfl) (marginalialaw05_sample.leafM (b := 41) HR4_4.out (Below.refl _ _)) rfl) HB4.out.size (by simp [marginalialaw05_sample.ar])); go_wp2_with fail; have HB5 := Aside0.mk (below_alloc (below_alloc HB4.out (.cells #[.int .i64 1, .int .i64 7, .string ⟨#[40]⟩, .slice A1 0 c1, .int .i64 23, .int .i64 0, .string (⟨#[]⟩ : ByteArray), .slice (some ⟨w2.heap.size, 0, none⟩) 1 1, .int .i64 1, .int .i64 1, .string ⟨#[32]⟩, .slice A3 0 c3, .int .i64 1, .int .i64 7, .string ⟨#[41]⟩, .slice A4 0 c4] 26)) (.cells #[.int .i64 22, .int .i64 0, .string (⟨#[]⟩ : ByteArray), .slice (some ⟨w4.heap.size, 0, none⟩) 4 4] 26)); have HG5 := Aside0.mk (blk_alloc (blk_alloc HG4.out (.cells #[.int .i64 1, .int .i64 7, .string ⟨#[40]⟩, .slice A1 0 c1, .int .i64 23, .int .i64 0, .string (⟨#[]⟩ : ByteArray), .slice (some ⟨w2.heap.size, 0, none⟩) 1 1, .int .i64 1, .int .i64 1, .string ⟨#[32]⟩, .slice A3 0 c3, .int .i64 1, .int .i64 7, .string ⟨#[41]⟩, .slice A4 0 c4] 26)) (.cells #[.int .i64 22, .int .i64 0, .string (⟨#[]⟩ : ByteArray), .slice (some ⟨w4.heap.size, 0, none⟩) 4 4] 26))
 have HA5 : Aside0 (((w4.alloc (.cells #[.int .i64 1, .int .i64 7, .string ⟨#[40]⟩, .slice A1 0 c1, .int .i64 23, .int .i64 0, .string (⟨#[]⟩ : ByteArray), .slice (some ⟨w2.heap.size, 0, none⟩) 1 1, .int .i64 1, .int .i64 1, .string ⟨#[32]⟩, .slice A3 0 c3, .int .i64 1, .int .i64 7, .string ⟨#[41]⟩, .slice A4 0 c4] 26)).alloc (.cells #[.int .i64 22, .int .i64 0, .string (⟨#[]⟩ : ByteArray), .slice (some ⟨w4.heap.size, 0, none⟩) 4 4] 26)).heap[w4.heap.size + 1]? = some (.cells #[.int .i64 22, .int .i64 0, .string (⟨#[]⟩ : ByteArray), .slice (some ⟨w4.heap.size, 0, none⟩) 4 4] 26 (0, 0))) := ⟨by
  have := blk_new (w4.alloc (.cells #[.int .i64 1, .int .i64 7, .string ⟨#[40]⟩, .slice A1 0 c1, .int .i64 23, .int .i64 0, .string (⟨#[]⟩ : ByteArray), .slice (some ⟨w2.heap.size, 0, none⟩) 1 1, .int .i64 1, .int .i64 1, .string ⟨#[32]⟩, .slice A3 0 c3, .int .i64 1, .int .i64 7, .string ⟨#[41]⟩, .slice A4 0 c4] 26)) (.cells #[.int .i64 22, .int .i64 0, .string (⟨#[]⟩ : ByteArray), .slice (some ⟨w4.heap.size, 0, none⟩) 4 4] 26)
  simpa using this⟩
 have HR5 := Aside0.mk (Kd.R_alloc HRy_4.out (.cells #[.int .i64 22, .int .i64 0, .string (⟨#[]⟩ : ByteArray), .slice (some ⟨w4.heap.size, 0, none⟩) 4 4] 26)); clear HB4 HG4 HRy_4 HR1_4 HRx_4 HR3_4 HR4_4 HR2_2; generalize ((w4.alloc (.cells #[.int .i64 1, .int .i64 7, .string ⟨#[40]⟩, .slice A1 0 c1, .int .i64 23, .int .i64 0, .string (⟨#[]⟩ : ByteArray), .slice (some ⟨w2.heap.size, 0, none⟩) 1 1, .int .i64 1, .int .i64 1, .string ⟨#[32]⟩, .slice A3 0 c3, .int .i64 1, .int .i64 7, .string ⟨#[41]⟩, .slice A4 0 c4] 26)).alloc (.cells #[.int .i64 22, .int .i64 0, .string (⟨#[]⟩ : ByteArray), .slice (some ⟨w4.heap.size, 0, none⟩) 4 4] 26)) = W5 at *; have q0 : W5.cell? ⟨w4.heap.size + 1, 0, none⟩ = some (.int .i64 22) := Lib.cell_of_heap HA5.out 0; have q1 : W5.cell? ⟨w4.heap.size + 1, 1, none⟩ = some (.int .i64 0) := Lib.cell_of_heap HA5.out 1; have q2 : W5.cell? ⟨w4.heap.size + 1, 2, none⟩ = some (.string (⟨#[]⟩ : ByteArray)) := Lib.cell_of_heap HA5.out 2; have q3 : W5.cell? ⟨w4.heap.size + 1, 3, none⟩ = some (.slice (some ⟨w4.heap.size, 0, none⟩) 4 4) := Lib.cell_of_heap HA5.out 3
 go_region_law (go_simp; go_at_call 42; refine (marginalialaw05_leaf.calls 60 _ _ _ _ _ _ marginalialaw05_sample.l102).mono ?_; rintro e w6 ⟨v6, rfl, hR6, hb6⟩; obtain ⟨A6, c6, hv6, _, _⟩ := Kd.R_reads hR6; subst hv6; have hA6 := blk_below (blk_drew HA5.out) hb6; have hG6 := blk_alloc (blk_alloc (blk_below (blk_drew HG5.out) hb6) (.cells #[.int .i64 1, .int .i64 3, .string ⟨#[102]⟩, .slice A6 0 c6] 26)) (.cells #[.int .i64 23, .int .i64 0, .string (⟨#[]⟩ : ByteArray), .slice (some ⟨w6.heap.size, 0, none⟩) 1 1, .int .i64 22, .int .i64 0, .string (⟨#[]⟩ : ByteArray), .slice (some ⟨w4.heap.size, 0, none⟩) 4 4] 26); have p0 : w6.cell? ⟨w4.heap.size + 1, 0, none⟩ = some (.int .i64 22) := Lib.cell_of_heap hA6 0; have s0 : (w6.alloc (.cells #[.int .i64 1, .int .i64 3, .string ⟨#[102]⟩, .slice A6 0 c6] 26)).cell? ⟨w4.heap.size + 1, 0, none⟩ = some (.int .i64 22) := Lib.cell_of_heap (blk_alloc hA6 _) 0; have d0 : ((w6.alloc (.cells #[.int .i64 1, .int .i64 3, .string ⟨#[102]⟩, .slice A6 0 c6] 26)).alloc (.cells #[.int .i64 23, .int .i64 0, .string (⟨#[]⟩ : ByteArray), .slice (some ⟨w6.heap.size, 0, none⟩) 1 1, .int .i64 22, .int .i64 0, .string (⟨#[]⟩ : ByteArray), .slice (some ⟨w4.heap.size, 0, none⟩) 4 4] 26)).cell? ⟨w.heap.size, 0, none⟩ = some (.int .i64 0) := Lib.cell_of_heap hG6 0; have f0 := Lib.frozen_of_heap hG6 0; have p1 : w6.cell? ⟨w4.heap.size + 1, 1, none⟩ = some (.int .i64 0) := Lib.cell_of_heap hA6 1; have s1 : (w6.alloc (.cells #[.int .i64 1, .int .i64 3, .string ⟨#[102]⟩, .slice A6 0 c6] 26)).cell? ⟨w4.heap.size + 1, 1, none⟩ = some (.int .i64 0) := Lib.cell_of_heap (blk_alloc hA6 _) 1; have d1 : ((w6.alloc (.cells #[.int .i64 1, .int .i64 3, .string ⟨#[102]⟩, .slice A6 0 c6] 26)).alloc (.cells #[.int .i64 23, .int .i64 0, .string (⟨#[]⟩ : ByteArray), .slice (some ⟨w6.heap.size, 0, none⟩) 1 1, .int .i64 22, .int .i64 0, .string (⟨#[]⟩ : ByteArray), .slice (some ⟨w4.heap.size, 0, none⟩) 4 4] 26)).cell? ⟨w.heap.size, 1, none⟩ = some (.int .i64 0) := Lib.cell_of_heap hG6 1; have f1 := Lib.frozen_of_heap hG6 1; have p2 : w6.cell? ⟨w4.heap.size + 1, 2, none⟩ = some (.string (⟨#[]⟩ : ByteArray)) := Lib.cell_of_heap hA6 2; have s2 : (w6.alloc (.cells #[.int .i64 1, .int .i64 3, .string ⟨#[102]⟩, .slice A6 0 c6] 26)).cell? ⟨w4.heap.size + 1, 2, none⟩ = some (.string (⟨#[]⟩ : ByteArray)) := Lib.cell_of_heap (blk_alloc hA6 _) 2; have d2 : ((w6.alloc (.cells #[.int .i64 1, .int .i64 3, .string ⟨#[102]⟩, .slice A6 0 c6] 26)).alloc (.cells #[.int .i64 23, .int .i64 0, .string (⟨#[]⟩ : ByteArray), .slice (some ⟨w6.heap.size, 0, none⟩) 1 1, .int .i64 22, .int .i64 0, .string (⟨#[]⟩ : ByteArray), .slice (some ⟨w4.heap.size, 0, none⟩) 4 4] 26)).cell? ⟨w.heap.size, 2, none⟩ = some (.string (⟨#[]⟩ : ByteArray)) := Lib.cell_of_heap hG6 2; have f2 := Lib.frozen_of_heap hG6 2; have p3 : w6.cell? ⟨w4.heap.size + 1, 3, none⟩ = some (.slice (some ⟨w4.heap.size, 0, none⟩) 4 4) := Lib.cell_of_heap hA6 3; have s3 : (w6.alloc (.cells #[.int .i64 1, .int .i64 3, .string ⟨#[102]⟩, .slice A6 0 c6] 26)).cell? ⟨w4.heap.size + 1, 3, none⟩ = some (.slice (some ⟨w4.heap.size, 0, none⟩) 4 4) := Lib.cell_of_heap (blk_alloc hA6 _) 3; have d3 : ((w6.alloc (.cells #[.int .i64 1, .int .i64 3, .string ⟨#[102]⟩, .slice A6 0 c6] 26)).alloc (.cells #[.int .i64 23, .int .i64 0, .string (⟨#[]⟩ : ByteArray), .slice (some ⟨w6.heap.size, 0, none⟩) 1 1, .int .i64 22, .int .i64 0, .string (⟨#[]⟩ : ByteArray), .slice (some ⟨w4.heap.size, 0, none⟩) 4 4] 26)).cell? ⟨w.heap.size, 3, none⟩ = some (.slice none 0 0) := Lib.cell_of_heap hG6 3; have f3 := Lib.frozen_of_heap hG6 3)
 all_goals
  have HB6 := Aside0.mk (token_good.step (below_drew1 HB5.out) hb6); have HR6 := Aside0.mk (marginalialaw05_sample.lit (e := 26) k26 (W := w6) (base := w0.heap.size) (xs := [marginalialaw05_sample.lf 3 102]) (inner := [.int .i64 1, .int .i64 3, .string ⟨#[102]⟩, .slice A6 0 c6]) (show Reps _ 4 _ _ from by simpa using Reps.snoc (Reps.none _ _) (marginalialaw05_sample.leafM (b := 102) (Kd.R_lower hR6 (below_drew1 HB5.out).size) (Below.refl _ _)) rfl) HB6.out.size (by simp)); have HRy := Aside0.mk (Kd.R_alloc (Kd.R_below (Kd.R_drew HR5.out) hb6) (.cells #[.int .i64 1, .int .i64 3, .string ⟨#[102]⟩, .slice A6 0 c6] 26)); have HB7 := Aside0.mk (below_alloc HB6.out (.cells #[.int .i64 1, .int .i64 3, .string ⟨#[102]⟩, .slice A6 0 c6] 26))
  have HS7 : Aside0 ((w6.alloc (.cells #[.int .i64 1, .int .i64 3, .string ⟨#[102]⟩, .slice A6 0 c6] 26)).heap.size = w6.heap.size + 1) := ⟨by simp⟩
  have HK := Aside0.mk (marginalialaw05_sample.lit (e := 26) k26 (W := w6.alloc (.cells #[.int .i64 1, .int .i64 3, .string ⟨#[102]⟩, .slice A6 0 c6] 26)) (base := w0.heap.size) (xs := marginalialaw05_sample.kids) (inner := [.int .i64 23, .int .i64 0, .string (⟨#[]⟩ : ByteArray), .slice (some ⟨w6.heap.size, 0, none⟩) 1 1, .int .i64 22, .int .i64 0, .string (⟨#[]⟩ : ByteArray), .slice (some ⟨w4.heap.size, 0, none⟩) 4 4]) (show Reps _ 4 _ _ from by simpa [marginalialaw05_sample.kids, marginalialaw05_sample.ar, marginalialaw05_sample.nm] using Reps.snoc (Reps.snoc (Reps.none _ _) (k26_mkM (w6.alloc (.cells #[.int .i64 1, .int .i64 3, .string ⟨#[102]⟩, .slice A6 0 c6] 26)) w0.heap.size _ (marginalialaw05_sample.nm 102) HR6.out) rfl) (k26_mkM (w6.alloc (.cells #[.int .i64 1, .int .i64 3, .string ⟨#[102]⟩, .slice A6 0 c6] 26)) w0.heap.size _ marginalialaw05_sample.ar HRy.out) rfl) HB7.out.size (by simp [marginalialaw05_sample.kids])); have HGz := Aside0.mk hG6; go_wp2_with fail
  have HK2 : Kd.R k26 26 ((w6.alloc (.cells #[.int .i64 1, .int .i64 3, .string ⟨#[102]⟩, .slice A6 0 c6] 26)).alloc (.cells #[.int .i64 23, .int .i64 0, .string (⟨#[]⟩ : ByteArray), .slice (some ⟨w6.heap.size, 0, none⟩) 1 1, .int .i64 22, .int .i64 0, .string (⟨#[]⟩ : ByteArray), .slice (some ⟨w4.heap.size, 0, none⟩) 4 4] 26)) w0.heap.size (fun _ => True) (.slice (some ⟨w6.heap.size + 1, 0, none⟩) 2 2) marginalialaw05_sample.kids := by
   have hk := HK.out; rw [HS7.out] at hk; exact hk
  have hok : ∀ k, w0.heap.size ≤ k → k ≠ w.heap.size := fun k hk => by have := HS0.out; omega
  refine bodyPost_ret (results_cell_row rfl _ _ w.heap.size 26 #[.int .i64 21, .int .i64 0, .string (⟨#[]⟩ : ByteArray), .slice (some ⟨w6.heap.size + 1, 0, none⟩) 2 2] (0, 0) _ rfl (by refine blk_put (cs := #[.int .i64 21, .int .i64 0, .string (⟨#[]⟩ : ByteArray), .slice none 0 0]) ?_ 3 _ rfl; refine blk_put (cs := #[.int .i64 21, .int .i64 0, .string (⟨#[]⟩ : ByteArray), .slice none 0 0]) ?_ 2 _ rfl; refine blk_put (cs := #[.int .i64 21, .int .i64 0, .string (⟨#[]⟩ : ByteArray), .slice none 0 0]) ?_ 1 _ rfl; refine blk_put (cs := #[.int .i64 0, .int .i64 0, .string (⟨#[]⟩ : ByteArray), .slice none 0 0]) ?_ 0 _ rfl; exact HGz.out) Try.underlying26 rfl (by kernel_rfl)) rfl ?_; refine ⟨_, rfl, Kd.R_mono (Kd.R_lower (Kd.R_far (p := ⟨w.heap.size, 3, none⟩) (Kd.R_far (p := ⟨w.heap.size, 2, none⟩) (Kd.R_far (p := ⟨w.heap.size, 1, none⟩) (Kd.R_far (p := ⟨w.heap.size, 0, none⟩) (Kd.R_mono (Kd.R_bound HK2) (fun k hk => hk.2.1)) hok _) hok _) hok _) hok _) HWB.out.size) (fun _ _ => trivial), ?_⟩; exact below_set (below_set (below_set (below_set (HWB.out.trans ((below_alloc HB7.out (.cells #[.int .i64 23, .int .i64 0, .string (⟨#[]⟩ : ByteArray), .slice (some ⟨w6.heap.size, 0, none⟩) 1 1, .int .i64 22, .int .i64 0, .string (⟨#[]⟩ : ByteArray), .slice (some ⟨w4.heap.size, 0, none⟩) 4 4] 26)).mono HWB.out.size)) (Nat.le_refl _)) (Nat.le_refl _)) (Nat.le_refl _)) (Nat.le_refl _)


end Go.Proofs.Ytnafnieocpkkhaa.P

namespace Go.Proofs.Ytnafnieocpkkhaa.P
open Go.RowKit Go.Proofs.YtnafnieocpkkhaaW.PrintWords Go.Proofs.YtnafnieocpkkhaaW.PrintLast Go.Proofs.YtnafnieocpkkhaaW.PrintMore
attribute [local go_sem] max2_int min2_int max_two min_two max_three min_three max_four min_four
set_option linter.unusedVariables false
set_option linter.unusedSimpArgs false

def marginalialaw05_alive.f : Option (Bool) := some true
theorem marginalialaw05_alive.e1 : tree_Text.f 60 21 0 ⟨#[]⟩ marginalialaw05_sample.kids = some (⟨#[102, 40, 120, 32, 41]⟩, 0) := by kernel_rfl
theorem marginalialaw05_alive.e2 : tree_Find.f 60 21 0 ⟨#[]⟩ marginalialaw05_sample.kids 2 = some ([1, 1, 0], 0) := by kernel_rfl
theorem marginalialaw05_alive.e3 : tree_Cover.f 60 21 0 ⟨#[]⟩ marginalialaw05_sample.kids 2 4 = some ([1], 0) := by kernel_rfl
theorem marginalialaw05_alive.e4 : tree_Count.f 60 21 0 ⟨#[]⟩ marginalialaw05_sample.kids = some (9, 3, 0) := by kernel_rfl
theorem marginalialaw05_alive.e5 : tree_All.f 60 21 0 ⟨#[]⟩ marginalialaw05_sample.kids 23 = some ([[0], [1, 1]], 0) := by kernel_rfl
theorem marginalialaw05_alive.e6 : tree_IsFormed.f 60 21 0 ⟨#[]⟩ marginalialaw05_sample.kids = some true := by kernel_rfl
theorem marginalialaw05_alive.e7 : marginaliaref05_Ints.f 60 [1, 1, 0] [1, 1, 0] = some true := by kernel_rfl
theorem marginalialaw05_alive.e8 : marginaliaref05_Ints.f 60 [1] [1] = some true := by kernel_rfl
theorem marginalialaw05_alive.lit (W : World) (g : Nat) (l : List Int) (cs : Array Value) (hcs : cs = (l.map (Value.int .i64)).toArray) (hl : l.length ≤ 1000) (hb : W.heap[g]? = some (.cells cs 3 (0, 0))) : Kd.C (Kd.int .i64) W (some ⟨g, 0, none⟩) l.length l := by
 subst hcs; refine ⟨rfl, by omega, fun _ => ⟨_, rfl, fun j p hj => ⟨[.int .i64 p], rfl, rfl, fun i u hu => ?_⟩⟩⟩
 have hi : i = 0 := by
  rcases i with _ | i
  ·rfl
  ·simp at hu
 subst hi; simp only [List.getElem?_cons_zero, Option.some.injEq] at hu; subst hu; rw [show (⟨g, 0, none⟩ : Addr).add (j * (Kd.int .i64).sz + 0) = ⟨g, j, none⟩ by show (⟨g, 0, none⟩ : Addr).add (j * 1 + 0) = _; unfold Addr.add; simp; try omega, Lib.cell_of_heap hb]
 simp [hj]
set_option maxHeartbeats 8000000 in
set_option maxRecDepth 100000 in
theorem marginalialaw05_alive.calls (r : Bool) (w : World) (h : marginalialaw05_alive.f = some r) :
  Calls Try.prog 20 #[] w fun e w' => e = .returned (.bool r) ∧ Below w.heap.size w w' := by
 have hu := Try.underlying26; simp only [marginalialaw05_alive.f, Option.some.injEq] at h; subst h; have HB0 := Aside0.mk (Below.refl w.heap.size w); go_enter Try.func20, Try.ntmps20; go_wp2_with fail; refine (marginalialaw05_sample.calls _ _ _ _ _ rfl).mono ?_; rintro e w1 ⟨v, rfl, hN, hb⟩; have HB1 := Aside0.mk (token_good.step HB0.out hb); have HN := Aside0.mk hN; obtain ⟨A, c, hv, hc, hC⟩ := Kd.R_reads hN; subst hv; have HC := Aside0.mk hC; clear hb hN hC HB0; go_wp2_with fail; refine (tree_Text.calls 60 _ _ _ _ _ _ _ _ _ HC.out hc marginalialaw05_alive.e1).mono ?_; rintro e w2 ⟨rfl, hb⟩; have HB2 := Aside0.mk (token_good.step HB1.out hb); clear hb HB1 HN HC hc; go_wp2_with fail; refine (marginalialaw05_sample.calls _ _ _ _ _ rfl).mono ?_; rintro e w3 ⟨v, rfl, hN, hb⟩; have HB3 := Aside0.mk (token_good.step HB2.out hb); have HN := Aside0.mk hN; obtain ⟨A, c, hv, hc, hC⟩ := Kd.R_reads hN; subst hv; have HC := Aside0.mk hC; clear hb hN hC HB2; go_wp2_with fail; refine (tree_Find.calls 60 _ _ _ _ _ _ _ _ _ _ HC.out hc marginalialaw05_alive.e2).mono ?_; rintro e w4 ⟨v, rfl, hR, hb⟩; have HB4 := Aside0.mk (token_good.step HB3.out hb); obtain ⟨A3, c3, hv, hc3, hC3⟩ := Kd.R_reads hR; subst hv; have HC3 := Aside0.mk hC3; have T3_4 := Aside0.mk (Below.refl w4.heap.size w4); clear hR hC3 hb HB3 HN HC hc; go_wp2_with fail; refine (marginalialaw05_sample.calls _ _ _ _ _ rfl).mono ?_; rintro e w5 ⟨v, rfl, hN, hb⟩; have HB5 := Aside0.mk (token_good.step HB4.out hb); have T3_5 := Aside0.mk (token_good.step T3_4.out hb); have HN := Aside0.mk hN; obtain ⟨A, c, hv, hc, hC⟩ := Kd.R_reads hN; subst hv; have HC := Aside0.mk hC; clear hb hN hC HB4; go_wp2_with fail; refine (tree_Cover.calls 60 _ _ _ _ _ _ _ _ _ _ _ HC.out hc marginalialaw05_alive.e3).mono ?_; rintro e w6 ⟨v, rfl, hR, hb⟩; have HB6 := Aside0.mk (token_good.step HB5.out hb); have T3_6 := Aside0.mk (token_good.step T3_5.out hb); obtain ⟨A5, c5, hv, hc5, hC5⟩ := Kd.R_reads hR; subst hv; have HC5 := Aside0.mk hC5; have T5_6 := Aside0.mk (Below.refl w6.heap.size w6); clear hR hC5 hb HB5 HN HC hc; go_wp2_with fail; refine (marginalialaw05_sample.calls _ _ _ _ _ rfl).mono ?_; rintro e w7 ⟨v, rfl, hN, hb⟩; have HB7 := Aside0.mk (token_good.step HB6.out hb); have T3_7 := Aside0.mk (token_good.step T3_6.out hb); have T5_7 := Aside0.mk (token_good.step T5_6.out hb); have HN := Aside0.mk hN; obtain ⟨A, c, hv, hc, hC⟩ := Kd.R_reads hN; subst hv; have HC := Aside0.mk hC; clear hb hN hC HB6; go_wp2_with fail; refine (tree_Count.calls 60 _ _ _ _ _ _ _ _ _ _ HC.out hc marginalialaw05_alive.e4).mono ?_; rintro e w8 ⟨rfl, hb⟩; have HB8 := Aside0.mk (token_good.step HB7.out hb); have T3_8 := Aside0.mk (token_good.step T3_7.out hb); have T5_8 := Aside0.mk (token_good.step T5_7.out hb); clear hb HB7 HN HC hc; go_wp2_with fail; refine (marginalialaw05_sample.calls _ _ _ _ _ rfl).mono ?_; rintro e w9 ⟨v, rfl, hN, hb⟩; have HB9 := Aside0.mk (token_good.step HB8.out hb); have T3_9 := Aside0.mk (token_good.step T3_8.out hb); have T5_9 := Aside0.mk (token_good.step T5_8.out hb); have HN := Aside0.mk hN; obtain ⟨A, c, hv, hc, hC⟩ := Kd.R_reads hN; subst hv; have HC := Aside0.mk hC; clear hb hN hC HB8; go_wp2_with fail; refine (tree_All.calls 60 _ _ _ _ _ _ _ _ _ _ HC.out hc marginalialaw05_alive.e5).mono ?_; rintro e w10 ⟨v, rfl, hR, hb⟩; have HB10 := Aside0.mk (token_good.step HB9.out hb); have T3_10 := Aside0.mk (token_good.step T3_9.out hb); have T5_10 := Aside0.mk (token_good.step T5_9.out hb); obtain ⟨A7, c7, hv, _, _⟩ := Kd.R_reads hR; subst hv; clear hR hb HB9 HN HC hc; go_wp2_with fail; refine (marginalialaw05_sample.calls _ _ _ _ _ rfl).mono ?_; rintro e w11 ⟨v, rfl, hN, hb⟩; have HB11 := Aside0.mk (token_good.step HB10.out hb); have T3_11 := Aside0.mk (token_good.step T3_10.out hb); have T5_11 := Aside0.mk (token_good.step T5_10.out hb); have HN := Aside0.mk hN; obtain ⟨A, c, hv, hc, hC⟩ := Kd.R_reads hN; subst hv; have HC := Aside0.mk hC; clear hb hN hC HB10; go_wp2_with fail
 refine (tree_IsFormed.calls 60 _ _ _ _ _ _ _ _ HC.out hc marginalialaw05_alive.e6).mono ?_; rintro e w12 ⟨rfl, hb⟩; have HB12 := Aside0.mk (token_good.step HB11.out hb); have T3_12 := Aside0.mk (token_good.step T3_11.out hb); have T5_12 := Aside0.mk (token_good.step T5_11.out hb); clear hb HB11 HN HC hc; have HD3 := Aside0.mk (Kd.C_below HC3.out T3_12.out); have HD5 := Aside0.mk (Kd.C_below HC5.out T5_12.out); clear HC3 HC5 T3_12 T5_12; have h110 : ([1, 1, 0] : List Int).length = 3 := rfl; go_wp2_with fail; refine (marginaliaref05_Ints.calls 60 A3 c3 [1, 1, 0] (some ⟨w12.heap.size, 0, none⟩) 3 [1, 1, 0] true _ (Kd.C_below HD3.out (below_alloc (Below.refl _ _) _)) hc3 (marginalialaw05_alive.lit _ w12.heap.size [1, 1, 0] _ rfl (by simp) (blk_new _ _)) (Nat.le_refl _) marginalialaw05_alive.e7).mono ?_; rintro e w13 ⟨rfl, hd⟩; have hb := d0below hd; have HB13 := Aside0.mk (token_good.step (below_alloc HB12.out _) hb); have HE5 := Aside0.mk (Kd.C_below HD5.out (token_good.step (below_alloc (Below.refl w12.heap.size w12) _) hb)); clear hd hb HB12 HD3 HD5; go_wp2_with fail; refine (marginaliaref05_Ints.calls 60 A5 c5 [1] (some ⟨w13.heap.size, 0, none⟩) 1 [1] true _ (Kd.C_below HE5.out (below_alloc (Below.refl _ _) _)) hc5 (marginalialaw05_alive.lit _ w13.heap.size [1] _ rfl (by simp) (blk_new _ _)) (Nat.le_refl _) marginalialaw05_alive.e8).mono ?_; rintro e w14 ⟨rfl, hd⟩; have hb := d0below hd; have HB14 := Aside0.mk (token_good.step (below_alloc HB13.out _) hb); clear hd hb HB13 HE5; go_wp2_with fail; go_ret; exact ⟨rfl, HB14.out⟩

end Go.Proofs.Ytnafnieocpkkhaa.P

namespace Go.Proofs.Ytnafnieocpkkhaa.P
open Go.RowKit Go.Proofs.YtnafnieocpkkhaaW.PrintWords Go.Proofs.YtnafnieocpkkhaaW.PrintLast Go.Proofs.YtnafnieocpkkhaaW.PrintMore
attribute [local go_sem] max2_int min2_int max_two min_two max_three min_three max_four min_four
set_option linter.unusedVariables false
set_option linter.unusedSimpArgs false

/-! ### marginalialaw05_TreeSame: function 5 -/
def marginalialaw05_TreeSame.f (k : Nat) (a0_0 : Int) (a0_1 : Int) (a0_2 : ByteArray) (l0_3 : List (S26)) (a1_0 : Int) (a1_1 : Int) (a1_2 : ByteArray) (l1_3 : List (S26)) : Option (Bool) := (marginalialaw05_cut.f k a0_0 a0_1 a0_2 l0_3).bind fun bt254 => ((marginalialaw05_cut.f k a1_0 a1_1 a1_2 l1_3).bind fun bt260 => ((tree_Changed.f k bt254.1 bt254.2.1 bt254.2.2.1 bt254.2.2.2 bt260.1 bt260.2.1 bt260.2.2.1 bt260.2.2.2).bind fun bt268 => ((tree_Same.f k bt254.1 bt254.2.1 bt254.2.2.1 bt254.2.2.2 bt260.1 bt260.2.1 bt260.2.2.1 bt260.2.2.2).bind fun t273 => ((marginaliaref05_Same.f k bt254.1 bt254.2.1 bt254.2.2.1 bt254.2.2.2 bt260.1 bt260.2.1 bt260.2.2.1 bt260.2.2.2).bind fun t274 => (if (t273 != t274) = true then (none) else ((tree_Same.f k bt254.1 bt254.2.1 bt254.2.2.1 bt254.2.2.2 bt254.1 bt254.2.1 bt254.2.2.1 bt254.2.2.2).bind fun t275 => (if t275 = true then ((marginaliaref05_IsFormed.f k bt254.1 bt254.2.1 bt254.2.2.1 bt254.2.2.2).bind fun t276 => (if t276 = true then ((marginaliaref05_IsFormed.f k bt260.1 bt260.2.1 bt260.2.2.1 bt260.2.2.2).bind fun t277 => (if t277 = true then ((marginaliaref05_Changed.f k bt254.1 bt254.2.1 bt254.2.2.1 bt254.2.2.2 bt260.1 bt260.2.1 bt260.2.2.1 bt260.2.2.2).bind fun bt278 => ((marginaliaref05_Ints.f k bt268.1 bt278.1).bind fun t282 => (if t282 = true then (if (bt268.2.1 == bt278.2) = true then (if bt268.2.2 = 0 then ((marginalialaw05_alive.f).bind fun t283 => (some t283)) else (none)) else (none)) else (none)))) else (if (bt268.1.length : Int) = 0 then (if bt268.2.1 = true then (none) else (if bt268.2.2 = 4 then ((marginalialaw05_alive.f).bind fun t284 => (some t284)) else (none))) else (none)))) else (if (bt268.1.length : Int) = 0 then (if bt268.2.1 = true then (none) else (if bt268.2.2 = 4 then ((marginalialaw05_alive.f).bind fun t285 => (some t285)) else (none))) else (none)))) else (none))))))))
def marginalialaw05_TreeSame.T1 : Bool × List (List Nat × List Nat) := (true, [([], []), ([0], [0]), ([], []), ([2, 1], [2]), ([], []), ([], []), ([4, 1, 3, 0, 1, 4, 5], [1, 4]), ([5, 3, 6, 0, 1, 2, 3, 4, 5, 6], [3, 5])])
def marginalialaw05_TreeSame.B1 : List Nat := [0, 1, 0, 7, 0, 0, 63, 127]
theorem marginalialaw05_TreeSame.tab1 : rtab .any (opsOf Try.f5 1) = marginalialaw05_TreeSame.T1 := by kernel_rfl
theorem marginalialaw05_TreeSame.bits1 : waitsOk marginalialaw05_TreeSame.T1.2 marginalialaw05_TreeSame.B1 = true := by kernel_rfl
def marginalialaw05_TreeSame.T3 : Bool × List (List Nat × List Nat) := (true, [([], []), ([], []), ([0, 1], [0, 1]), ([], []), ([], []), ([3, 4, 2], [3, 4]), ([2, 5], [2, 5]), ([6, 5], [6]), ([7], [7]), ([7], [7]), ([8, 9, 7, 7], [7, 8, 9]), ([10, 7], [7, 10]), ([7, 11], [7, 11])])
def marginalialaw05_TreeSame.B3 : List Nat := [0, 0, 3, 0, 0, 31, 63, 127, 255, 255, 1023, 2047, 4095]
theorem marginalialaw05_TreeSame.tab3 : rtab .any (opsOf Try.f5 3) = marginalialaw05_TreeSame.T3 := by kernel_rfl
theorem marginalialaw05_TreeSame.bits3 : waitsOk marginalialaw05_TreeSame.T3.2 marginalialaw05_TreeSame.B3 = true := by kernel_rfl
set_option maxHeartbeats 8000000 in
set_option maxRecDepth 100000 in
theorem marginalialaw05_TreeSame.calls (k : Nat) (a0_0 : Int) (a0_1 : Int) (a0_2 : ByteArray) (A0_3 : Option Addr) (c0_3 : Nat) (l0_3 : List (S26)) (a1_0 : Int) (a1_1 : Int) (a1_2 : ByteArray) (A1_3 : Option Addr) (c1_3 : Nat) (l1_3 : List (S26)) (r : Bool) (w : World) (hr0_3 : Kd.C k26 w A0_3 l0_3.length l0_3) (hc0_3 : l0_3.length ≤ c0_3) (hr1_3 : Kd.C k26 w A1_3 l1_3.length l1_3) (hc1_3 : l1_3.length ≤ c1_3) (h : marginalialaw05_TreeSame.f k a0_0 a0_1 a0_2 l0_3 a1_0 a1_1 a1_2 l1_3 = some r) :
  Calls Try.prog 5 #[.agg #[.int .i64 a0_0, .int .i64 a0_1, .string a0_2, .slice A0_3 l0_3.length c0_3], .agg #[.int .i64 a1_0, .int .i64 a1_1, .string a1_2, .slice A1_3 l1_3.length c1_3]] w fun e w' => e = .returned (.bool r) ∧ Below w.heap.size w w' := by
 have hu26 := Try.underlying26; have HR0_3 := Aside0.mk hr0_3; have HC0_3 := Aside0.mk hc0_3; clear hr0_3 hc0_3; have HR1_3 := Aside0.mk hr1_3; have HC1_3 := Aside0.mk hc1_3; clear hr1_3 hc1_3; have HB := Aside0.mk (Below.refl w.heap.size w); have H : ((marginalialaw05_cut.f k a0_0 a0_1 a0_2 l0_3).bind fun bt254 => ((marginalialaw05_cut.f k a1_0 a1_1 a1_2 l1_3).bind fun bt260 => ((tree_Changed.f k bt254.1 bt254.2.1 bt254.2.2.1 bt254.2.2.2 bt260.1 bt260.2.1 bt260.2.2.1 bt260.2.2.2).bind fun bt268 => ((tree_Same.f k bt254.1 bt254.2.1 bt254.2.2.1 bt254.2.2.2 bt260.1 bt260.2.1 bt260.2.2.1 bt260.2.2.2).bind fun t273 => ((marginaliaref05_Same.f k bt254.1 bt254.2.1 bt254.2.2.1 bt254.2.2.2 bt260.1 bt260.2.1 bt260.2.2.1 bt260.2.2.2).bind fun t274 => (if (t273 != t274) = true then (none) else ((tree_Same.f k bt254.1 bt254.2.1 bt254.2.2.1 bt254.2.2.2 bt254.1 bt254.2.1 bt254.2.2.1 bt254.2.2.2).bind fun t275 => (if t275 = true then ((marginaliaref05_IsFormed.f k bt254.1 bt254.2.1 bt254.2.2.1 bt254.2.2.2).bind fun t276 => (if t276 = true then ((marginaliaref05_IsFormed.f k bt260.1 bt260.2.1 bt260.2.2.1 bt260.2.2.2).bind fun t277 => (if t277 = true then ((marginaliaref05_Changed.f k bt254.1 bt254.2.1 bt254.2.2.1 bt254.2.2.2 bt260.1 bt260.2.1 bt260.2.2.1 bt260.2.2.2).bind fun bt278 => ((marginaliaref05_Ints.f k bt268.1 bt278.1).bind fun t282 => (if t282 = true then (if (bt268.2.1 == bt278.2) = true then (if bt268.2.2 = 0 then ((marginalialaw05_alive.f).bind fun t283 => (some t283)) else (none)) else (none)) else (none)))) else (if (bt268.1.length : Int) = 0 then (if bt268.2.1 = true then (none) else (if bt268.2.2 = 4 then ((marginalialaw05_alive.f).bind fun t284 => (some t284)) else (none))) else (none)))) else (if (bt268.1.length : Int) = 0 then (if bt268.2.1 = true then (none) else (if bt268.2.2 = 4 then ((marginalialaw05_alive.f).bind fun t285 => (some t285)) else (none))) else (none)))) else (none))))))))) = some r := h; clear h; replace H := Option.bind_eq_some_iff.mp H; obtain ⟨⟨t254, t255, t256, t257⟩, A30, H⟩ := H; replace H : ((marginalialaw05_cut.f k a1_0 a1_1 a1_2 l1_3).bind fun bt260 => ((tree_Changed.f k t254 t255 t256 t257 bt260.1 bt260.2.1 bt260.2.2.1 bt260.2.2.2).bind fun bt268 => ((tree_Same.f k t254 t255 t256 t257 bt260.1 bt260.2.1 bt260.2.2.1 bt260.2.2.2).bind fun t273 => ((marginaliaref05_Same.f k t254 t255 t256 t257 bt260.1 bt260.2.1 bt260.2.2.1 bt260.2.2.2).bind fun t274 => (if (t273 != t274) = true then (none) else ((tree_Same.f k t254 t255 t256 t257 t254 t255 t256 t257).bind fun t275 => (if t275 = true then ((marginaliaref05_IsFormed.f k t254 t255 t256 t257).bind fun t276 => (if t276 = true then ((marginaliaref05_IsFormed.f k bt260.1 bt260.2.1 bt260.2.2.1 bt260.2.2.2).bind fun t277 => (if t277 = true then ((marginaliaref05_Changed.f k t254 t255 t256 t257 bt260.1 bt260.2.1 bt260.2.2.1 bt260.2.2.2).bind fun bt278 => ((marginaliaref05_Ints.f k bt268.1 bt278.1).bind fun t282 => (if t282 = true then (if (bt268.2.1 == bt278.2) = true then (if bt268.2.2 = 0 then ((marginalialaw05_alive.f).bind fun t283 => (some t283)) else (none)) else (none)) else (none)))) else (if (bt268.1.length : Int) = 0 then (if bt268.2.1 = true then (none) else (if bt268.2.2 = 4 then ((marginalialaw05_alive.f).bind fun t284 => (some t284)) else (none))) else (none)))) else (if (bt268.1.length : Int) = 0 then (if bt268.2.1 = true then (none) else (if bt268.2.2 = 4 then ((marginalialaw05_alive.f).bind fun t285 => (some t285)) else (none))) else (none)))) else (none)))))))) = some r := H; have A3 := Aside0.mk A30; clear A30; replace H := Option.bind_eq_some_iff.mp H; obtain ⟨⟨t260, t261, t262, t263⟩, A40, H⟩ := H; replace H : ((tree_Changed.f k t254 t255 t256 t257 t260 t261 t262 t263).bind fun bt268 => ((tree_Same.f k t254 t255 t256 t257 t260 t261 t262 t263).bind fun t273 => ((marginaliaref05_Same.f k t254 t255 t256 t257 t260 t261 t262 t263).bind fun t274 => (if (t273 != t274) = true then (none) else ((tree_Same.f k t254 t255 t256 t257 t254 t255 t256 t257).bind fun t275 => (if t275 = true then ((marginaliaref05_IsFormed.f k t254 t255 t256 t257).bind fun t276 => (if t276 = true then ((marginaliaref05_IsFormed.f k t260 t261 t262 t263).bind fun t277 => (if t277 = true then ((marginaliaref05_Changed.f k t254 t255 t256 t257 t260 t261 t262 t263).bind fun bt278 => ((marginaliaref05_Ints.f k bt268.1 bt278.1).bind fun t282 => (if t282 = true then (if (bt268.2.1 == bt278.2) = true then (if bt268.2.2 = 0 then ((marginalialaw05_alive.f).bind fun t283 => (some t283)) else (none)) else (none)) else (none)))) else (if (bt268.1.length : Int) = 0 then (if bt268.2.1 = true then (none) else (if bt268.2.2 = 4 then ((marginalialaw05_alive.f).bind fun t284 => (some t284)) else (none))) else (none)))) else (if (bt268.1.length : Int) = 0 then (if bt268.2.1 = true then (none) else (if bt268.2.2 = 4 then ((marginalialaw05_alive.f).bind fun t285 => (some t285)) else (none))) else (none)))) else (none))))))) = some r := H
 have A4 := Aside0.mk A40; clear A40; replace H := Option.bind_eq_some_iff.mp H; obtain ⟨⟨t268, t271, t272⟩, A50, H⟩ := H; replace H : ((tree_Same.f k t254 t255 t256 t257 t260 t261 t262 t263).bind fun t273 => ((marginaliaref05_Same.f k t254 t255 t256 t257 t260 t261 t262 t263).bind fun t274 => (if (t273 != t274) = true then (none) else ((tree_Same.f k t254 t255 t256 t257 t254 t255 t256 t257).bind fun t275 => (if t275 = true then ((marginaliaref05_IsFormed.f k t254 t255 t256 t257).bind fun t276 => (if t276 = true then ((marginaliaref05_IsFormed.f k t260 t261 t262 t263).bind fun t277 => (if t277 = true then ((marginaliaref05_Changed.f k t254 t255 t256 t257 t260 t261 t262 t263).bind fun bt278 => ((marginaliaref05_Ints.f k t268 bt278.1).bind fun t282 => (if t282 = true then (if (t271 == bt278.2) = true then (if t272 = 0 then ((marginalialaw05_alive.f).bind fun t283 => (some t283)) else (none)) else (none)) else (none)))) else (if (t268.length : Int) = 0 then (if t271 = true then (none) else (if t272 = 4 then ((marginalialaw05_alive.f).bind fun t284 => (some t284)) else (none))) else (none)))) else (if (t268.length : Int) = 0 then (if t271 = true then (none) else (if t272 = 4 then ((marginalialaw05_alive.f).bind fun t285 => (some t285)) else (none))) else (none)))) else (none)))))) = some r := H; have A5 := Aside0.mk A50; clear A50; replace H := zo H; obtain ⟨t273, A6, H⟩ := H; replace H := zo H; obtain ⟨t274, A7, H⟩ := H; replace H := zj H; obtain ⟨c8, H⟩ := H
 have c8b0 : (t273 != t274) = false := (by simpa using c8)
 (try (have c8b1 : decide (t273 = t274) = true := by simpa using c8))
 (try (have c8b2 : (t273 == t274) = true := by simpa using c8))
 clear c8; replace H := zo H; obtain ⟨t275, A9, H⟩ := H; replace H := zi H; obtain ⟨c10, H⟩ := H; subst c10; replace H := zo H; obtain ⟨t276, A11, H⟩ := H; have HH_ := Aside0.mk H; clear H; go_enter Try.func5, Try.ntmps5
 try go_wp2_with (first | ((with_reducible refine zD 2 rfl ?_); refine zx 2 #[.int .i64 a0_0, .int .i64 a0_1, .string a0_2, .slice A0_3 l0_3.length c0_3] 26 ?_; intro gb252 hg w21 hbox hb; have BK252 := Aside0.mk (hbox); have GW252 := (zq hg : Aside0 (w.heap.size ≤ gb252)); have GE252 := GW252; replace HB := (zB hb); clear hb hbox hg) | ((with_reducible refine zD 3 rfl ?_); refine zx 3 #[.int .i64 a1_0, .int .i64 a1_1, .string a1_2, .slice A1_3 l1_3.length c1_3] 26 ?_; intro gb253 hg w22 hbox hb; have BK253 := Aside0.mk (hbox); have GW253 := (zq hg : Aside0 (w.heap.size ≤ gb253)); have GE253 := GW253; replace HB := (zB hb); have NB252_253 := (zl hg BK252 : Aside0 (gb252 ≠ gb253)); have NB253_252 := (zl' hg BK252 : Aside0 (gb253 ≠ gb252)); replace BK252 := (zK BK252 hb); clear hb hbox hg))
 replace BK252 := Aside0.mk (blk_drew BK252.out); replace BK253 := Aside0.mk (blk_drew BK253.out); replace HB := Aside0.mk (below_drew1 HB.out); refine start_ (n := 8) (S := fun w' => w'.cell? ⟨gb252, 0, none⟩ = some (.int .i64 a0_0) ∧ w'.cell? ⟨gb252, 1, none⟩ = some (.int .i64 a0_1) ∧ w'.cell? ⟨gb252, 2, none⟩ = some (.string a0_2) ∧ w'.cell? ⟨gb252, 3, none⟩ = some (.slice A0_3 l0_3.length c0_3) ∧ w'.cell? ⟨gb253, 0, none⟩ = some (.int .i64 a1_0) ∧ w'.cell? ⟨gb253, 1, none⟩ = some (.int .i64 a1_1) ∧ w'.cell? ⟨gb253, 2, none⟩ = some (.string a1_2) ∧ w'.cell? ⟨gb253, 3, none⟩ = some (.slice A1_3 l1_3.length c1_3)) (ds := []) #[false, false, false, false, false, false, false, false] (by kernel_rfl) rfl rfl ⟨(blk_cell BK252.out 0).trans rfl, (blk_cell BK252.out 1).trans rfl, (blk_cell BK252.out 2).trans rfl, (blk_cell BK252.out 3).trans rfl, (blk_cell BK253.out 0).trans rfl, (blk_cell BK253.out 1).trans rfl, (blk_cell BK253.out 2).trans rfl, (blk_cell BK253.out 3).trans rfl⟩ (fun hHeld => ?_); refine with_tabW marginalialaw05_TreeSame.tab1 marginalialaw05_TreeSame.bits1 (fun HT_ HW_ => ?_); generalize w22.drew = w23 at BK252 BK253 HB hHeld ⊢; refine zy 0 12 HT_ HW_ hHeld ?_; refine zy 2 14 HT_ HW_ hHeld ?_; refine join_ (σ := Value × Value × Nat × Nat) 2 #[true, true, true, true, true, true, false, false] (fun s_ => [(13, .agg #[.int .i64 t254, .int .i64 t255, .string t256, s_.1]), (15, .agg #[.int .i64 t260, .int .i64 t261, .string t262, s_.2.1]), (5, .pointer (some ⟨s_.2.2.1, 0, none⟩)), (6, .pointer (some ⟨s_.2.2.2, 0, none⟩))]) (fun s_ w' => (w'.cell? ⟨gb252, 0, none⟩ = some (.int .i64 a0_0) ∧ w'.cell? ⟨gb252, 1, none⟩ = some (.int .i64 a0_1) ∧ w'.cell? ⟨gb252, 2, none⟩ = some (.string a0_2) ∧ w'.cell? ⟨gb252, 3, none⟩ = some (.slice A0_3 l0_3.length c0_3) ∧ w'.cell? ⟨gb253, 0, none⟩ = some (.int .i64 a1_0) ∧ w'.cell? ⟨gb253, 1, none⟩ = some (.int .i64 a1_1) ∧ w'.cell? ⟨gb253, 2, none⟩ = some (.string a1_2) ∧ w'.cell? ⟨gb253, 3, none⟩ = some (.slice A1_3 l1_3.length c1_3)) ∧ (Kd.R k26 26 w' w.heap.size (fun k_ => some k_ ≠ (s_.2.1 : Value).ownBlock ∧ k_ ≠ gb252 ∧ k_ ≠ gb253 ∧ k_ ≠ s_.2.2.1 ∧ k_ ≠ s_.2.2.2) s_.1 t257) ∧ (Kd.R k26 26 w' w.heap.size (fun k_ => some k_ ≠ (s_.1 : Value).ownBlock ∧ k_ ≠ gb252 ∧ k_ ≠ gb253 ∧ k_ ≠ s_.2.2.1 ∧ k_ ≠ s_.2.2.2) s_.2.1 t263) ∧ (w'.heap[gb252]? = some (.cells #[.int .i64 a0_0, .int .i64 a0_1, .string a0_2, .slice A0_3 l0_3.length c0_3] 26 (0, 0))) ∧ (w'.heap[gb253]? = some (.cells #[.int .i64 a1_0, .int .i64 a1_1, .string a1_2, .slice A1_3 l1_3.length c1_3] 26 (0, 0))) ∧ (w'.heap[s_.2.2.1]? = some (.cells #[.int .i64 0, .int .i64 0, .string (⟨#[]⟩ : ByteArray), .slice none 0 0] 26 (0, 0))) ∧ (w'.heap[s_.2.2.2]? = some (.cells #[.int .i64 0, .int .i64 0, .string (⟨#[]⟩ : ByteArray), .slice none 0 0] 26 (0, 0))) ∧ (w.heap.size ≤ s_.2.2.1) ∧ (w.heap.size ≤ s_.2.2.1) ∧ (gb252 ≠ s_.2.2.1) ∧ (s_.2.2.1 ≠ gb252) ∧ (gb253 ≠ s_.2.2.1) ∧ (s_.2.2.1 ≠ gb253) ∧ (s_.2.2.2 ≠ s_.2.2.1) ∧ (s_.2.2.1 ≠ s_.2.2.2) ∧ (w.heap.size ≤ s_.2.2.2) ∧ (w.heap.size ≤ s_.2.2.2) ∧ (gb252 ≠ s_.2.2.2) ∧ (s_.2.2.2 ≠ gb252) ∧ (gb253 ≠ s_.2.2.2) ∧ (s_.2.2.2 ≠ gb253) ∧ (Below w.heap.size w w')) ?_ ?_; rotate_left
 ·intro hJ1_3_4_5; refine join_ (σ := Value × Value × Nat) 3 #[true, true, true, true, true, false, false, false] (fun s_ => [(13, .agg #[.int .i64 t254, .int .i64 t255, .string t256, s_.1]), (15, .agg #[.int .i64 t260, .int .i64 t261, .string t262, s_.2.1]), (5, .pointer (some ⟨s_.2.2, 0, none⟩))]) (fun s_ w' => (w'.cell? ⟨gb252, 0, none⟩ = some (.int .i64 a0_0) ∧ w'.cell? ⟨gb252, 1, none⟩ = some (.int .i64 a0_1) ∧ w'.cell? ⟨gb252, 2, none⟩ = some (.string a0_2) ∧ w'.cell? ⟨gb252, 3, none⟩ = some (.slice A0_3 l0_3.length c0_3) ∧ w'.cell? ⟨gb253, 0, none⟩ = some (.int .i64 a1_0) ∧ w'.cell? ⟨gb253, 1, none⟩ = some (.int .i64 a1_1) ∧ w'.cell? ⟨gb253, 2, none⟩ = some (.string a1_2) ∧ w'.cell? ⟨gb253, 3, none⟩ = some (.slice A1_3 l1_3.length c1_3)) ∧ (Kd.R k26 26 w' w.heap.size (fun k_ => some k_ ≠ (s_.2.1 : Value).ownBlock ∧ k_ ≠ gb252 ∧ k_ ≠ gb253 ∧ k_ ≠ s_.2.2) s_.1 t257) ∧ (Kd.R k26 26 w' w.heap.size (fun k_ => some k_ ≠ (s_.1 : Value).ownBlock ∧ k_ ≠ gb252 ∧ k_ ≠ gb253 ∧ k_ ≠ s_.2.2) s_.2.1 t263) ∧ (w'.heap[gb252]? = some (.cells #[.int .i64 a0_0, .int .i64 a0_1, .string a0_2, .slice A0_3 l0_3.length c0_3] 26 (0, 0))) ∧ (w'.heap[gb253]? = some (.cells #[.int .i64 a1_0, .int .i64 a1_1, .string a1_2, .slice A1_3 l1_3.length c1_3] 26 (0, 0))) ∧ (w'.heap[s_.2.2]? = some (.cells #[.int .i64 0, .int .i64 0, .string (⟨#[]⟩ : ByteArray), .slice none 0 0] 26 (0, 0))) ∧ (w.heap.size ≤ s_.2.2) ∧ (w.heap.size ≤ s_.2.2) ∧ (gb252 ≠ s_.2.2) ∧ (s_.2.2 ≠ gb252) ∧ (gb253 ≠ s_.2.2) ∧ (s_.2.2 ≠ gb253) ∧ (Below w.heap.size w w')) ?_ ?_; rotate_left
  ·intro hJ1_3_4; refine join_ (σ := Value × Value × Nat) 3 #[true, true, true, true, false, true, false, false] (fun s_ => [(13, .agg #[.int .i64 t254, .int .i64 t255, .string t256, s_.1]), (15, .agg #[.int .i64 t260, .int .i64 t261, .string t262, s_.2.1]), (6, .pointer (some ⟨s_.2.2, 0, none⟩))]) (fun s_ w' => (w'.cell? ⟨gb252, 0, none⟩ = some (.int .i64 a0_0) ∧ w'.cell? ⟨gb252, 1, none⟩ = some (.int .i64 a0_1) ∧ w'.cell? ⟨gb252, 2, none⟩ = some (.string a0_2) ∧ w'.cell? ⟨gb252, 3, none⟩ = some (.slice A0_3 l0_3.length c0_3) ∧ w'.cell? ⟨gb253, 0, none⟩ = some (.int .i64 a1_0) ∧ w'.cell? ⟨gb253, 1, none⟩ = some (.int .i64 a1_1) ∧ w'.cell? ⟨gb253, 2, none⟩ = some (.string a1_2) ∧ w'.cell? ⟨gb253, 3, none⟩ = some (.slice A1_3 l1_3.length c1_3)) ∧ (Kd.R k26 26 w' w.heap.size (fun k_ => some k_ ≠ (s_.2.1 : Value).ownBlock ∧ k_ ≠ gb252 ∧ k_ ≠ gb253 ∧ k_ ≠ s_.2.2) s_.1 t257) ∧ (Kd.R k26 26 w' w.heap.size (fun k_ => some k_ ≠ (s_.1 : Value).ownBlock ∧ k_ ≠ gb252 ∧ k_ ≠ gb253 ∧ k_ ≠ s_.2.2) s_.2.1 t263) ∧ (w'.heap[gb252]? = some (.cells #[.int .i64 a0_0, .int .i64 a0_1, .string a0_2, .slice A0_3 l0_3.length c0_3] 26 (0, 0))) ∧ (w'.heap[gb253]? = some (.cells #[.int .i64 a1_0, .int .i64 a1_1, .string a1_2, .slice A1_3 l1_3.length c1_3] 26 (0, 0))) ∧ (w'.heap[s_.2.2]? = some (.cells #[.int .i64 0, .int .i64 0, .string (⟨#[]⟩ : ByteArray), .slice none 0 0] 26 (0, 0))) ∧ (w.heap.size ≤ s_.2.2) ∧ (w.heap.size ≤ s_.2.2) ∧ (gb252 ≠ s_.2.2) ∧ (s_.2.2 ≠ gb252) ∧ (gb253 ≠ s_.2.2) ∧ (s_.2.2 ≠ gb253) ∧ (Below w.heap.size w w')) ?_ ?_; rotate_left
   ·intro hJ1_3_5; refine join_ (σ := Value × Nat × Nat) 3 #[true, true, true, false, true, true, false, false] (fun s_ => [(13, .agg #[.int .i64 t254, .int .i64 t255, .string t256, s_.1]), (5, .pointer (some ⟨s_.2.1, 0, none⟩)), (6, .pointer (some ⟨s_.2.2, 0, none⟩))]) (fun s_ w' => (w'.cell? ⟨gb252, 0, none⟩ = some (.int .i64 a0_0) ∧ w'.cell? ⟨gb252, 1, none⟩ = some (.int .i64 a0_1) ∧ w'.cell? ⟨gb252, 2, none⟩ = some (.string a0_2) ∧ w'.cell? ⟨gb252, 3, none⟩ = some (.slice A0_3 l0_3.length c0_3) ∧ w'.cell? ⟨gb253, 0, none⟩ = some (.int .i64 a1_0) ∧ w'.cell? ⟨gb253, 1, none⟩ = some (.int .i64 a1_1) ∧ w'.cell? ⟨gb253, 2, none⟩ = some (.string a1_2) ∧ w'.cell? ⟨gb253, 3, none⟩ = some (.slice A1_3 l1_3.length c1_3)) ∧ (Kd.R k26 26 w' w.heap.size (fun k_ => k_ ≠ gb252 ∧ k_ ≠ gb253 ∧ k_ ≠ s_.2.1 ∧ k_ ≠ s_.2.2) s_.1 t257) ∧ (w'.heap[gb252]? = some (.cells #[.int .i64 a0_0, .int .i64 a0_1, .string a0_2, .slice A0_3 l0_3.length c0_3] 26 (0, 0))) ∧ (w'.heap[gb253]? = some (.cells #[.int .i64 a1_0, .int .i64 a1_1, .string a1_2, .slice A1_3 l1_3.length c1_3] 26 (0, 0))) ∧ (w'.heap[s_.2.1]? = some (.cells #[.int .i64 0, .int .i64 0, .string (⟨#[]⟩ : ByteArray), .slice none 0 0] 26 (0, 0))) ∧ (w'.heap[s_.2.2]? = some (.cells #[.int .i64 0, .int .i64 0, .string (⟨#[]⟩ : ByteArray), .slice none 0 0] 26 (0, 0))) ∧ (w.heap.size ≤ s_.2.1) ∧ (w.heap.size ≤ s_.2.1) ∧ (gb252 ≠ s_.2.1) ∧ (s_.2.1 ≠ gb252) ∧ (gb253 ≠ s_.2.1) ∧ (s_.2.1 ≠ gb253) ∧ (s_.2.2 ≠ s_.2.1) ∧ (s_.2.1 ≠ s_.2.2) ∧ (w.heap.size ≤ s_.2.2) ∧ (w.heap.size ≤ s_.2.2) ∧ (gb252 ≠ s_.2.2) ∧ (s_.2.2 ≠ gb252) ∧ (gb253 ≠ s_.2.2) ∧ (s_.2.2 ≠ gb253) ∧ (Below w.heap.size w w')) ?_ ?_; rotate_left
    ·intro hJ1_4_5; refine join_ (σ := Value × Value) 4 #[true, true, true, true, false, false, false, false] (fun s_ => [(13, .agg #[.int .i64 t254, .int .i64 t255, .string t256, s_.1]), (15, .agg #[.int .i64 t260, .int .i64 t261, .string t262, s_.2])]) (fun s_ w' => (w'.cell? ⟨gb252, 0, none⟩ = some (.int .i64 a0_0) ∧ w'.cell? ⟨gb252, 1, none⟩ = some (.int .i64 a0_1) ∧ w'.cell? ⟨gb252, 2, none⟩ = some (.string a0_2) ∧ w'.cell? ⟨gb252, 3, none⟩ = some (.slice A0_3 l0_3.length c0_3) ∧ w'.cell? ⟨gb253, 0, none⟩ = some (.int .i64 a1_0) ∧ w'.cell? ⟨gb253, 1, none⟩ = some (.int .i64 a1_1) ∧ w'.cell? ⟨gb253, 2, none⟩ = some (.string a1_2) ∧ w'.cell? ⟨gb253, 3, none⟩ = some (.slice A1_3 l1_3.length c1_3)) ∧ (Kd.R k26 26 w' w.heap.size (fun k_ => some k_ ≠ (s_.2 : Value).ownBlock ∧ k_ ≠ gb252 ∧ k_ ≠ gb253) s_.1 t257) ∧ (Kd.R k26 26 w' w.heap.size (fun k_ => some k_ ≠ (s_.1 : Value).ownBlock ∧ k_ ≠ gb252 ∧ k_ ≠ gb253) s_.2 t263) ∧ (w'.heap[gb252]? = some (.cells #[.int .i64 a0_0, .int .i64 a0_1, .string a0_2, .slice A0_3 l0_3.length c0_3] 26 (0, 0))) ∧ (w'.heap[gb253]? = some (.cells #[.int .i64 a1_0, .int .i64 a1_1, .string a1_2, .slice A1_3 l1_3.length c1_3] 26 (0, 0))) ∧ (Below w.heap.size w w')) ?_ ?_; rotate_left
     ·intro hJ1_3; refine join_ (σ := Value × Nat) 4 #[true, true, true, false, true, false, false, false] (fun s_ => [(13, .agg #[.int .i64 t254, .int .i64 t255, .string t256, s_.1]), (5, .pointer (some ⟨s_.2, 0, none⟩))]) (fun s_ w' => (w'.cell? ⟨gb252, 0, none⟩ = some (.int .i64 a0_0) ∧ w'.cell? ⟨gb252, 1, none⟩ = some (.int .i64 a0_1) ∧ w'.cell? ⟨gb252, 2, none⟩ = some (.string a0_2) ∧ w'.cell? ⟨gb252, 3, none⟩ = some (.slice A0_3 l0_3.length c0_3) ∧ w'.cell? ⟨gb253, 0, none⟩ = some (.int .i64 a1_0) ∧ w'.cell? ⟨gb253, 1, none⟩ = some (.int .i64 a1_1) ∧ w'.cell? ⟨gb253, 2, none⟩ = some (.string a1_2) ∧ w'.cell? ⟨gb253, 3, none⟩ = some (.slice A1_3 l1_3.length c1_3)) ∧ (Kd.R k26 26 w' w.heap.size (fun k_ => k_ ≠ gb252 ∧ k_ ≠ gb253 ∧ k_ ≠ s_.2) s_.1 t257) ∧ (w'.heap[gb252]? = some (.cells #[.int .i64 a0_0, .int .i64 a0_1, .string a0_2, .slice A0_3 l0_3.length c0_3] 26 (0, 0))) ∧ (w'.heap[gb253]? = some (.cells #[.int .i64 a1_0, .int .i64 a1_1, .string a1_2, .slice A1_3 l1_3.length c1_3] 26 (0, 0))) ∧ (w'.heap[s_.2]? = some (.cells #[.int .i64 0, .int .i64 0, .string (⟨#[]⟩ : ByteArray), .slice none 0 0] 26 (0, 0))) ∧ (w.heap.size ≤ s_.2) ∧ (w.heap.size ≤ s_.2) ∧ (gb252 ≠ s_.2) ∧ (s_.2 ≠ gb252) ∧ (gb253 ≠ s_.2) ∧ (s_.2 ≠ gb253) ∧ (Below w.heap.size w w')) ?_ ?_; rotate_left
      ·intro hJ1_4; refine join_ (σ := Value × Nat) 4 #[true, true, true, false, false, true, false, false] (fun s_ => [(13, .agg #[.int .i64 t254, .int .i64 t255, .string t256, s_.1]), (6, .pointer (some ⟨s_.2, 0, none⟩))]) (fun s_ w' => (w'.cell? ⟨gb252, 0, none⟩ = some (.int .i64 a0_0) ∧ w'.cell? ⟨gb252, 1, none⟩ = some (.int .i64 a0_1) ∧ w'.cell? ⟨gb252, 2, none⟩ = some (.string a0_2) ∧ w'.cell? ⟨gb252, 3, none⟩ = some (.slice A0_3 l0_3.length c0_3) ∧ w'.cell? ⟨gb253, 0, none⟩ = some (.int .i64 a1_0) ∧ w'.cell? ⟨gb253, 1, none⟩ = some (.int .i64 a1_1) ∧ w'.cell? ⟨gb253, 2, none⟩ = some (.string a1_2) ∧ w'.cell? ⟨gb253, 3, none⟩ = some (.slice A1_3 l1_3.length c1_3)) ∧ (Kd.R k26 26 w' w.heap.size (fun k_ => k_ ≠ gb252 ∧ k_ ≠ gb253 ∧ k_ ≠ s_.2) s_.1 t257) ∧ (w'.heap[gb252]? = some (.cells #[.int .i64 a0_0, .int .i64 a0_1, .string a0_2, .slice A0_3 l0_3.length c0_3] 26 (0, 0))) ∧ (w'.heap[gb253]? = some (.cells #[.int .i64 a1_0, .int .i64 a1_1, .string a1_2, .slice A1_3 l1_3.length c1_3] 26 (0, 0))) ∧ (w'.heap[s_.2]? = some (.cells #[.int .i64 0, .int .i64 0, .string (⟨#[]⟩ : ByteArray), .slice none 0 0] 26 (0, 0))) ∧ (w.heap.size ≤ s_.2) ∧ (w.heap.size ≤ s_.2) ∧ (gb252 ≠ s_.2) ∧ (s_.2 ≠ gb252) ∧ (gb253 ≠ s_.2) ∧ (s_.2 ≠ gb253) ∧ (Below w.heap.size w w')) ?_ ?_; rotate_left
       ·intro hJ1_5; refine join_ (σ := Nat × Nat) 4 #[true, false, true, false, true, true, false, false] (fun s_ => [(5, .pointer (some ⟨s_.1, 0, none⟩)), (6, .pointer (some ⟨s_.2, 0, none⟩))]) (fun s_ w' => (w'.cell? ⟨gb252, 0, none⟩ = some (.int .i64 a0_0) ∧ w'.cell? ⟨gb252, 1, none⟩ = some (.int .i64 a0_1) ∧ w'.cell? ⟨gb252, 2, none⟩ = some (.string a0_2) ∧ w'.cell? ⟨gb252, 3, none⟩ = some (.slice A0_3 l0_3.length c0_3) ∧ w'.cell? ⟨gb253, 0, none⟩ = some (.int .i64 a1_0) ∧ w'.cell? ⟨gb253, 1, none⟩ = some (.int .i64 a1_1) ∧ w'.cell? ⟨gb253, 2, none⟩ = some (.string a1_2) ∧ w'.cell? ⟨gb253, 3, none⟩ = some (.slice A1_3 l1_3.length c1_3)) ∧ (w'.heap[gb252]? = some (.cells #[.int .i64 a0_0, .int .i64 a0_1, .string a0_2, .slice A0_3 l0_3.length c0_3] 26 (0, 0))) ∧ (w'.heap[gb253]? = some (.cells #[.int .i64 a1_0, .int .i64 a1_1, .string a1_2, .slice A1_3 l1_3.length c1_3] 26 (0, 0))) ∧ (w'.heap[s_.1]? = some (.cells #[.int .i64 0, .int .i64 0, .string (⟨#[]⟩ : ByteArray), .slice none 0 0] 26 (0, 0))) ∧ (w'.heap[s_.2]? = some (.cells #[.int .i64 0, .int .i64 0, .string (⟨#[]⟩ : ByteArray), .slice none 0 0] 26 (0, 0))) ∧ (w.heap.size ≤ s_.1) ∧ (w.heap.size ≤ s_.1) ∧ (gb252 ≠ s_.1) ∧ (s_.1 ≠ gb252) ∧ (gb253 ≠ s_.1) ∧ (s_.1 ≠ gb253) ∧ (s_.2 ≠ s_.1) ∧ (s_.1 ≠ s_.2) ∧ (w.heap.size ≤ s_.2) ∧ (w.heap.size ≤ s_.2) ∧ (gb252 ≠ s_.2) ∧ (s_.2 ≠ gb252) ∧ (gb253 ≠ s_.2) ∧ (s_.2 ≠ gb253) ∧ (Below w.heap.size w w')) ?_ ?_; rotate_left
        ·intro hJ4_5; refine join_ (σ := Value) 5 #[true, true, true, false, false, false, false, false] (fun s_ => [(13, .agg #[.int .i64 t254, .int .i64 t255, .string t256, s_])]) (fun s_ w' => (w'.cell? ⟨gb252, 0, none⟩ = some (.int .i64 a0_0) ∧ w'.cell? ⟨gb252, 1, none⟩ = some (.int .i64 a0_1) ∧ w'.cell? ⟨gb252, 2, none⟩ = some (.string a0_2) ∧ w'.cell? ⟨gb252, 3, none⟩ = some (.slice A0_3 l0_3.length c0_3) ∧ w'.cell? ⟨gb253, 0, none⟩ = some (.int .i64 a1_0) ∧ w'.cell? ⟨gb253, 1, none⟩ = some (.int .i64 a1_1) ∧ w'.cell? ⟨gb253, 2, none⟩ = some (.string a1_2) ∧ w'.cell? ⟨gb253, 3, none⟩ = some (.slice A1_3 l1_3.length c1_3)) ∧ (Kd.R k26 26 w' w.heap.size (fun k_ => k_ ≠ gb252 ∧ k_ ≠ gb253) s_ t257) ∧ (w'.heap[gb252]? = some (.cells #[.int .i64 a0_0, .int .i64 a0_1, .string a0_2, .slice A0_3 l0_3.length c0_3] 26 (0, 0))) ∧ (w'.heap[gb253]? = some (.cells #[.int .i64 a1_0, .int .i64 a1_1, .string a1_2, .slice A1_3 l1_3.length c1_3] 26 (0, 0))) ∧ (Below w.heap.size w w')) ?_ ?_; rotate_left
         ·intro hJ1; refine join_ (σ := Nat) 5 #[true, false, true, false, true, false, false, false] (fun s_ => [(5, .pointer (some ⟨s_, 0, none⟩))]) (fun s_ w' => (w'.cell? ⟨gb252, 0, none⟩ = some (.int .i64 a0_0) ∧ w'.cell? ⟨gb252, 1, none⟩ = some (.int .i64 a0_1) ∧ w'.cell? ⟨gb252, 2, none⟩ = some (.string a0_2) ∧ w'.cell? ⟨gb252, 3, none⟩ = some (.slice A0_3 l0_3.length c0_3) ∧ w'.cell? ⟨gb253, 0, none⟩ = some (.int .i64 a1_0) ∧ w'.cell? ⟨gb253, 1, none⟩ = some (.int .i64 a1_1) ∧ w'.cell? ⟨gb253, 2, none⟩ = some (.string a1_2) ∧ w'.cell? ⟨gb253, 3, none⟩ = some (.slice A1_3 l1_3.length c1_3)) ∧ (w'.heap[gb252]? = some (.cells #[.int .i64 a0_0, .int .i64 a0_1, .string a0_2, .slice A0_3 l0_3.length c0_3] 26 (0, 0))) ∧ (w'.heap[gb253]? = some (.cells #[.int .i64 a1_0, .int .i64 a1_1, .string a1_2, .slice A1_3 l1_3.length c1_3] 26 (0, 0))) ∧ (w'.heap[s_]? = some (.cells #[.int .i64 0, .int .i64 0, .string (⟨#[]⟩ : ByteArray), .slice none 0 0] 26 (0, 0))) ∧ (w.heap.size ≤ s_) ∧ (w.heap.size ≤ s_) ∧ (gb252 ≠ s_) ∧ (s_ ≠ gb252) ∧ (gb253 ≠ s_) ∧ (s_ ≠ gb253) ∧ (Below w.heap.size w w')) ?_ ?_; rotate_left
          ·intro hJ4; refine join_ (σ := Nat) 5 #[true, false, true, false, false, true, false, false] (fun s_ => [(6, .pointer (some ⟨s_, 0, none⟩))]) (fun s_ w' => (w'.cell? ⟨gb252, 0, none⟩ = some (.int .i64 a0_0) ∧ w'.cell? ⟨gb252, 1, none⟩ = some (.int .i64 a0_1) ∧ w'.cell? ⟨gb252, 2, none⟩ = some (.string a0_2) ∧ w'.cell? ⟨gb252, 3, none⟩ = some (.slice A0_3 l0_3.length c0_3) ∧ w'.cell? ⟨gb253, 0, none⟩ = some (.int .i64 a1_0) ∧ w'.cell? ⟨gb253, 1, none⟩ = some (.int .i64 a1_1) ∧ w'.cell? ⟨gb253, 2, none⟩ = some (.string a1_2) ∧ w'.cell? ⟨gb253, 3, none⟩ = some (.slice A1_3 l1_3.length c1_3)) ∧ (w'.heap[gb252]? = some (.cells #[.int .i64 a0_0, .int .i64 a0_1, .string a0_2, .slice A0_3 l0_3.length c0_3] 26 (0, 0))) ∧ (w'.heap[gb253]? = some (.cells #[.int .i64 a1_0, .int .i64 a1_1, .string a1_2, .slice A1_3 l1_3.length c1_3] 26 (0, 0))) ∧ (w'.heap[s_]? = some (.cells #[.int .i64 0, .int .i64 0, .string (⟨#[]⟩ : ByteArray), .slice none 0 0] 26 (0, 0))) ∧ (w.heap.size ≤ s_) ∧ (w.heap.size ≤ s_) ∧ (gb252 ≠ s_) ∧ (s_ ≠ gb252) ∧ (gb253 ≠ s_) ∧ (s_ ≠ gb253) ∧ (Below w.heap.size w w')) ?_ ?_; rotate_left
           ·intro hJ5; refine three_ (i := 1) (j := 4) (k := 5) (Ni := some 13) (Nj := some 5) (Nk := some 6) #[true, true, true, false, false, false, false, false] #[true, false, true, false, true, false, false, false] #[true, false, true, false, false, true, false, false] rfl rfl rfl rfl rfl rfl (three_of HT_.out (by kernel_rfl)) (by decide) (by decide) (by decide) (fun K hK => ?_) (fun K hK => ?_) (fun K hK => ?_)
            ·skip
             refine goes_ Try.func15 (by kernel_rfl) rfl #[.agg #[.int .i64 a0_0, .int .i64 a0_1, .string a0_2, .slice A0_3 l0_3.length c0_3]] (by rfl) rfl rfl (by (try simp only [List.map_toArray, List.map_cons, List.map_nil]); first | done | rfl | (simp only [List.length_drop, List.length_take]; rfl)) ?_
             with_reducible refine (marginalialaw05_cut.calls k a0_0 a0_1 a0_2 _ _ l0_3 t254 t255 t256 t257 _ ?side1 ?side2 A3.out).mono ?_
             (case side1 => exact zC HR0_3)
             (case side2 => exact HC0_3.out)
             rintro e w24 ⟨v258, rfl, ho0, hb⟩; refine ⟨_, rfl, ?_⟩; have HO259 := Aside0.mk (Kd.R_lower (Kd.R_newB (Kd.R_newB ho0 (g := gb252) (o := .cells #[.int .i64 a0_0, .int .i64 a0_1, .string a0_2, .slice A0_3 l0_3.length c0_3] 26 (0, 0)) (Cl.blk BK252.out)) (g := gb253) (o := .cells #[.int .i64 a1_0, .int .i64 a1_1, .string a1_2, .slice A1_3 l1_3.length c1_3] 26 (0, 0)) (Cl.blk BK253.out)) (below_size zb))
             replace BK252 := (zK BK252 hb)
             replace BK253 := (zK BK253 hb)
             replace HB := (zB hb)
             (try clear hb)
             (try clear hb2)
             (try clear hk)
             (try clear hi)
             (try clear ho0)
             refine hK.out _ _ ⟨(blk_cell BK252.out 0).trans rfl, (blk_cell BK252.out 1).trans rfl, (blk_cell BK252.out 2).trans rfl, (blk_cell BK252.out 3).trans rfl, (blk_cell BK253.out 0).trans rfl, (blk_cell BK253.out 1).trans rfl, (blk_cell BK253.out 2).trans rfl, (blk_cell BK253.out 3).trans rfl⟩ (fun hHeld => ?_); clear hK K; refine norm_ (a' := ?_) ?_ ?_; rotate_left
             ·show Act.put _ (some 13) _ = _
              simp only [Act.put, List.setIfInBounds_toArray, List.set_cons_zero, List.set_cons_succ, i64_w, i32_w]; rfl
             exact zN (hJ1 (v258) _ ⟨hHeld, (zRm HO259 (fun _ hk => ⟨hk.1.2, hk.2⟩)), (Cl.blk BK252.out), (Cl.blk BK253.out), zb⟩)
            ·skip
             refine box_step ?hg (N := 5) ?hd (cs := #[.int .i64 0, .int .i64 0, .string (⟨#[]⟩ : ByteArray), .slice none 0 0]) (t := 26) ?hr ?_; (case hd => rfl); (case hg => rfl); (case hr => first | (go_simp; done) | (go_simp; rfl)); intro gb266 hg w24 hbox hb; have BK266 := Aside0.mk (hbox)
             have GW266 := (zq hg : Aside0 (w.heap.size ≤ gb266))
             have GE266 := (zq hg : Aside0 (w.heap.size ≤ gb266))
             replace HB := (zB hb)
             have NB252_266 := (zl hg BK252 : Aside0 (gb252 ≠ gb266))
             have NB266_252 := (zl' hg BK252 : Aside0 (gb266 ≠ gb252))
             replace BK252 := (zK BK252 hb)
             have NB253_266 := (zl hg BK253 : Aside0 (gb253 ≠ gb266))
             have NB266_253 := (zl' hg BK253 : Aside0 (gb266 ≠ gb253))
             replace BK253 := (zK BK253 hb)
             clear hb hbox hg; refine hK.out _ _ ⟨(blk_cell BK252.out 0).trans rfl, (blk_cell BK252.out 1).trans rfl, (blk_cell BK252.out 2).trans rfl, (blk_cell BK252.out 3).trans rfl, (blk_cell BK253.out 0).trans rfl, (blk_cell BK253.out 1).trans rfl, (blk_cell BK253.out 2).trans rfl, (blk_cell BK253.out 3).trans rfl⟩ (fun hHeld => ?_); clear hK K; refine norm_ (a' := ?_) ?_ ?_; rotate_left
             ·show Act.put _ (some 5) _ = _
              simp only [Act.put, List.setIfInBounds_toArray, List.set_cons_zero, List.set_cons_succ, i64_w, i32_w]; rfl
             exact zN (hJ4 (gb266) _ ⟨hHeld, (Cl.blk BK252.out), (Cl.blk BK253.out), (Cl.blk BK266.out), GW266.out, GE266.out, NB252_266.out, NB266_252.out, NB253_266.out, NB266_253.out, zb⟩)
            ·skip
             refine box_step ?hg (N := 6) ?hd (cs := #[.int .i64 0, .int .i64 0, .string (⟨#[]⟩ : ByteArray), .slice none 0 0]) (t := 26) ?hr ?_; (case hd => rfl); (case hg => rfl); (case hr => first | (go_simp; done) | (go_simp; rfl)); intro gb267 hg w24 hbox hb; have BK267 := Aside0.mk (hbox)
             have GW267 := (zq hg : Aside0 (w.heap.size ≤ gb267))
             have GE267 := (zq hg : Aside0 (w.heap.size ≤ gb267))
             replace HB := (zB hb)
             have NB252_267 := (zl hg BK252 : Aside0 (gb252 ≠ gb267))
             have NB267_252 := (zl' hg BK252 : Aside0 (gb267 ≠ gb252))
             replace BK252 := (zK BK252 hb)
             have NB253_267 := (zl hg BK253 : Aside0 (gb253 ≠ gb267))
             have NB267_253 := (zl' hg BK253 : Aside0 (gb267 ≠ gb253))
             replace BK253 := (zK BK253 hb)
             clear hb hbox hg; refine hK.out _ _ ⟨(blk_cell BK252.out 0).trans rfl, (blk_cell BK252.out 1).trans rfl, (blk_cell BK252.out 2).trans rfl, (blk_cell BK252.out 3).trans rfl, (blk_cell BK253.out 0).trans rfl, (blk_cell BK253.out 1).trans rfl, (blk_cell BK253.out 2).trans rfl, (blk_cell BK253.out 3).trans rfl⟩ (fun hHeld => ?_); clear hK K; refine norm_ (a' := ?_) ?_ ?_; rotate_left
             ·show Act.put _ (some 6) _ = _
              simp only [Act.put, List.setIfInBounds_toArray, List.set_cons_zero, List.set_cons_succ, i64_w, i32_w]; rfl
             exact zN (hJ5 (gb267) _ ⟨hHeld, (Cl.blk BK252.out), (Cl.blk BK253.out), (Cl.blk BK267.out), GW267.out, GE267.out, NB252_267.out, NB267_252.out, NB253_267.out, NB267_253.out, zb⟩)
           ·skip
            rintro gb267 w25 ⟨hS_, h0_, h1_, h2_, h3_, h4_, h5_, h6_, h7_, h8_, h9_⟩
            replace BK252 := (⟨h0_⟩ : Aside0 (w25.heap[gb252]? = some (.cells #[.int .i64 a0_0, .int .i64 a0_1, .string a0_2, .slice A0_3 l0_3.length c0_3] 26 (0, 0))))
            replace BK253 := (⟨h1_⟩ : Aside0 (w25.heap[gb253]? = some (.cells #[.int .i64 a1_0, .int .i64 a1_1, .string a1_2, .slice A1_3 l1_3.length c1_3] 26 (0, 0))))
            have BK267 := (⟨h2_⟩ : Aside0 (w25.heap[gb267]? = some (.cells #[.int .i64 0, .int .i64 0, .string (⟨#[]⟩ : ByteArray), .slice none 0 0] 26 (0, 0))))
            have GW267 := (⟨h3_⟩ : Aside0 (w.heap.size ≤ gb267))
            have GE267 := (⟨h4_⟩ : Aside0 (w.heap.size ≤ gb267))
            have NB252_267 := (⟨h5_⟩ : Aside0 (gb252 ≠ gb267))
            have NB267_252 := (⟨h6_⟩ : Aside0 (gb267 ≠ gb252))
            have NB253_267 := (⟨h7_⟩ : Aside0 (gb253 ≠ gb267))
            have NB267_253 := (⟨h8_⟩ : Aside0 (gb267 ≠ gb253))
            replace HB := (⟨h9_⟩ : Aside0 (Below w.heap.size w w25))
            clear h0_ h1_ h2_ h3_ h4_ h5_ h6_ h7_ h8_ h9_; have hHeld : w25.cell? ⟨gb252, 0, none⟩ = some (.int .i64 a0_0) ∧ w25.cell? ⟨gb252, 1, none⟩ = some (.int .i64 a0_1) ∧ w25.cell? ⟨gb252, 2, none⟩ = some (.string a0_2) ∧ w25.cell? ⟨gb252, 3, none⟩ = some (.slice A0_3 l0_3.length c0_3) ∧ w25.cell? ⟨gb253, 0, none⟩ = some (.int .i64 a1_0) ∧ w25.cell? ⟨gb253, 1, none⟩ = some (.int .i64 a1_1) ∧ w25.cell? ⟨gb253, 2, none⟩ = some (.string a1_2) ∧ w25.cell? ⟨gb253, 3, none⟩ = some (.slice A1_3 l1_3.length c1_3) := hS_; refine norm_ (a' := ?_) ?_ ?_; rotate_left
            ·simp only [putAll, Act.put, List.setIfInBounds_toArray, List.set_cons_zero, List.set_cons_succ]; rfl
            refine two_ (i := 1) (j := 4) (Ni := some 13) (Nj := some 5) #[true, true, true, false, false, true, false, false] #[true, false, true, false, true, true, false, false] rfl rfl rfl rfl (two_of HT_.out (by kernel_rfl)) (by decide) (by decide) (fun K hK => ?_) (fun K hK => ?_)
            ·skip
             refine goes_ Try.func15 (by kernel_rfl) rfl #[.agg #[.int .i64 a0_0, .int .i64 a0_1, .string a0_2, .slice A0_3 l0_3.length c0_3]] (by rfl) rfl rfl (by (try simp only [List.map_toArray, List.map_cons, List.map_nil]); first | done | rfl | (simp only [List.length_drop, List.length_take]; rfl)) ?_
             with_reducible refine (marginalialaw05_cut.calls k a0_0 a0_1 a0_2 _ _ l0_3 t254 t255 t256 t257 _ ?side1 ?side2 A3.out).mono ?_
             (case side1 => exact zC HR0_3)
             (case side2 => exact HC0_3.out)
             rintro e w26 ⟨v258, rfl, ho0, hb⟩; refine ⟨_, rfl, ?_⟩; have HO259 := Aside0.mk (Kd.R_lower (Kd.R_newB (Kd.R_newB (Kd.R_newB ho0 (g := gb252) (o := .cells #[.int .i64 a0_0, .int .i64 a0_1, .string a0_2, .slice A0_3 l0_3.length c0_3] 26 (0, 0)) (Cl.blk BK252.out)) (g := gb253) (o := .cells #[.int .i64 a1_0, .int .i64 a1_1, .string a1_2, .slice A1_3 l1_3.length c1_3] 26 (0, 0)) (Cl.blk BK253.out)) (g := gb267) (o := .cells #[.int .i64 0, .int .i64 0, .string (⟨#[]⟩ : ByteArray), .slice none 0 0] 26 (0, 0)) (Cl.blk BK267.out)) (below_size zb))
             replace BK252 := (zK BK252 hb)
             replace BK253 := (zK BK253 hb)
             replace BK267 := (zK BK267 hb)
             replace HB := (zB hb)
             (try clear hb)
             (try clear hb2)
             (try clear hk)
             (try clear hi)
             (try clear ho0)
             refine hK.out _ _ ⟨(blk_cell BK252.out 0).trans rfl, (blk_cell BK252.out 1).trans rfl, (blk_cell BK252.out 2).trans rfl, (blk_cell BK252.out 3).trans rfl, (blk_cell BK253.out 0).trans rfl, (blk_cell BK253.out 1).trans rfl, (blk_cell BK253.out 2).trans rfl, (blk_cell BK253.out 3).trans rfl⟩ (fun hHeld => ?_); clear hK K; refine norm_ (a' := ?_) ?_ ?_; rotate_left
             ·show Act.put _ (some 13) _ = _
              simp only [Act.put, List.setIfInBounds_toArray, List.set_cons_zero, List.set_cons_succ, i64_w, i32_w]; rfl
             exact zN (hJ1_5 (v258, gb267) _ ⟨hHeld, (zRm HO259 (fun _ hk => ⟨hk.1.1.2, ⟨hk.1.2, hk.2⟩⟩)), (Cl.blk BK252.out), (Cl.blk BK253.out), (Cl.blk BK267.out), GW267.out, GE267.out, NB252_267.out, NB267_252.out, NB253_267.out, NB267_253.out, zb⟩)
            ·skip
             refine box_step ?hg (N := 5) ?hd (cs := #[.int .i64 0, .int .i64 0, .string (⟨#[]⟩ : ByteArray), .slice none 0 0]) (t := 26) ?hr ?_; (case hd => rfl); (case hg => rfl); (case hr => first | (go_simp; done) | (go_simp; rfl)); intro gb266 hg w26 hbox hb; have BK266 := Aside0.mk (hbox)
             have GW266 := (zq hg : Aside0 (w.heap.size ≤ gb266))
             have GE266 := (zq hg : Aside0 (w.heap.size ≤ gb266))
             replace HB := (zB hb)
             have NB252_266 := (zl hg BK252 : Aside0 (gb252 ≠ gb266))
             have NB266_252 := (zl' hg BK252 : Aside0 (gb266 ≠ gb252))
             replace BK252 := (zK BK252 hb)
             have NB253_266 := (zl hg BK253 : Aside0 (gb253 ≠ gb266))
             have NB266_253 := (zl' hg BK253 : Aside0 (gb266 ≠ gb253))
             replace BK253 := (zK BK253 hb)
             have NB267_266 := (zl hg BK267 : Aside0 (gb267 ≠ gb266))
             have NB266_267 := (zl' hg BK267 : Aside0 (gb266 ≠ gb267))
             replace BK267 := (zK BK267 hb)
             clear hb hbox hg; refine hK.out _ _ ⟨(blk_cell BK252.out 0).trans rfl, (blk_cell BK252.out 1).trans rfl, (blk_cell BK252.out 2).trans rfl, (blk_cell BK252.out 3).trans rfl, (blk_cell BK253.out 0).trans rfl, (blk_cell BK253.out 1).trans rfl, (blk_cell BK253.out 2).trans rfl, (blk_cell BK253.out 3).trans rfl⟩ (fun hHeld => ?_); clear hK K; refine norm_ (a' := ?_) ?_ ?_; rotate_left
             ·show Act.put _ (some 5) _ = _
              simp only [Act.put, List.setIfInBounds_toArray, List.set_cons_zero, List.set_cons_succ, i64_w, i32_w]; rfl
             exact zN (hJ4_5 (gb266, gb267) _ ⟨hHeld, (Cl.blk BK252.out), (Cl.blk BK253.out), (Cl.blk BK266.out), (Cl.blk BK267.out), GW266.out, GE266.out, NB252_266.out, NB266_252.out, NB253_266.out, NB266_253.out, NB267_266.out, NB266_267.out, GW267.out, GE267.out, NB252_267.out, NB267_252.out, NB253_267.out, NB267_253.out, zb⟩)
          ·skip
           rintro gb266 w25 ⟨hS_, h0_, h1_, h2_, h3_, h4_, h5_, h6_, h7_, h8_, h9_⟩
           replace BK252 := (⟨h0_⟩ : Aside0 (w25.heap[gb252]? = some (.cells #[.int .i64 a0_0, .int .i64 a0_1, .string a0_2, .slice A0_3 l0_3.length c0_3] 26 (0, 0))))
           replace BK253 := (⟨h1_⟩ : Aside0 (w25.heap[gb253]? = some (.cells #[.int .i64 a1_0, .int .i64 a1_1, .string a1_2, .slice A1_3 l1_3.length c1_3] 26 (0, 0))))
           have BK266 := (⟨h2_⟩ : Aside0 (w25.heap[gb266]? = some (.cells #[.int .i64 0, .int .i64 0, .string (⟨#[]⟩ : ByteArray), .slice none 0 0] 26 (0, 0))))
           have GW266 := (⟨h3_⟩ : Aside0 (w.heap.size ≤ gb266))
           have GE266 := (⟨h4_⟩ : Aside0 (w.heap.size ≤ gb266))
           have NB252_266 := (⟨h5_⟩ : Aside0 (gb252 ≠ gb266))
           have NB266_252 := (⟨h6_⟩ : Aside0 (gb266 ≠ gb252))
           have NB253_266 := (⟨h7_⟩ : Aside0 (gb253 ≠ gb266))
           have NB266_253 := (⟨h8_⟩ : Aside0 (gb266 ≠ gb253))
           replace HB := (⟨h9_⟩ : Aside0 (Below w.heap.size w w25))
           clear h0_ h1_ h2_ h3_ h4_ h5_ h6_ h7_ h8_ h9_; have hHeld : w25.cell? ⟨gb252, 0, none⟩ = some (.int .i64 a0_0) ∧ w25.cell? ⟨gb252, 1, none⟩ = some (.int .i64 a0_1) ∧ w25.cell? ⟨gb252, 2, none⟩ = some (.string a0_2) ∧ w25.cell? ⟨gb252, 3, none⟩ = some (.slice A0_3 l0_3.length c0_3) ∧ w25.cell? ⟨gb253, 0, none⟩ = some (.int .i64 a1_0) ∧ w25.cell? ⟨gb253, 1, none⟩ = some (.int .i64 a1_1) ∧ w25.cell? ⟨gb253, 2, none⟩ = some (.string a1_2) ∧ w25.cell? ⟨gb253, 3, none⟩ = some (.slice A1_3 l1_3.length c1_3) := hS_; refine norm_ (a' := ?_) ?_ ?_; rotate_left
           ·simp only [putAll, Act.put, List.setIfInBounds_toArray, List.set_cons_zero, List.set_cons_succ]; rfl
           refine two_ (i := 1) (j := 5) (Ni := some 13) (Nj := some 6) #[true, true, true, false, true, false, false, false] #[true, false, true, false, true, true, false, false] rfl rfl rfl rfl (two_of HT_.out (by kernel_rfl)) (by decide) (by decide) (fun K hK => ?_) (fun K hK => ?_)
           ·skip
            refine goes_ Try.func15 (by kernel_rfl) rfl #[.agg #[.int .i64 a0_0, .int .i64 a0_1, .string a0_2, .slice A0_3 l0_3.length c0_3]] (by rfl) rfl rfl (by (try simp only [List.map_toArray, List.map_cons, List.map_nil]); first | done | rfl | (simp only [List.length_drop, List.length_take]; rfl)) ?_
            with_reducible refine (marginalialaw05_cut.calls k a0_0 a0_1 a0_2 _ _ l0_3 t254 t255 t256 t257 _ ?side1 ?side2 A3.out).mono ?_
            (case side1 => exact zC HR0_3)
            (case side2 => exact HC0_3.out)
            rintro e w26 ⟨v258, rfl, ho0, hb⟩; refine ⟨_, rfl, ?_⟩; have HO259 := Aside0.mk (Kd.R_lower (Kd.R_newB (Kd.R_newB (Kd.R_newB ho0 (g := gb252) (o := .cells #[.int .i64 a0_0, .int .i64 a0_1, .string a0_2, .slice A0_3 l0_3.length c0_3] 26 (0, 0)) (Cl.blk BK252.out)) (g := gb253) (o := .cells #[.int .i64 a1_0, .int .i64 a1_1, .string a1_2, .slice A1_3 l1_3.length c1_3] 26 (0, 0)) (Cl.blk BK253.out)) (g := gb266) (o := .cells #[.int .i64 0, .int .i64 0, .string (⟨#[]⟩ : ByteArray), .slice none 0 0] 26 (0, 0)) (Cl.blk BK266.out)) (below_size zb))
            replace BK252 := (zK BK252 hb)
            replace BK253 := (zK BK253 hb)
            replace BK266 := (zK BK266 hb)
            replace HB := (zB hb)
            (try clear hb)
            (try clear hb2)
            (try clear hk)
            (try clear hi)
            (try clear ho0)
            refine hK.out _ _ ⟨(blk_cell BK252.out 0).trans rfl, (blk_cell BK252.out 1).trans rfl, (blk_cell BK252.out 2).trans rfl, (blk_cell BK252.out 3).trans rfl, (blk_cell BK253.out 0).trans rfl, (blk_cell BK253.out 1).trans rfl, (blk_cell BK253.out 2).trans rfl, (blk_cell BK253.out 3).trans rfl⟩ (fun hHeld => ?_); clear hK K; refine norm_ (a' := ?_) ?_ ?_; rotate_left
            ·show Act.put _ (some 13) _ = _
             simp only [Act.put, List.setIfInBounds_toArray, List.set_cons_zero, List.set_cons_succ, i64_w, i32_w]; rfl
            exact zN (hJ1_4 (v258, gb266) _ ⟨hHeld, (zRm HO259 (fun _ hk => ⟨hk.1.1.2, ⟨hk.1.2, hk.2⟩⟩)), (Cl.blk BK252.out), (Cl.blk BK253.out), (Cl.blk BK266.out), GW266.out, GE266.out, NB252_266.out, NB266_252.out, NB253_266.out, NB266_253.out, zb⟩)
           ·skip
            refine box_step ?hg (N := 6) ?hd (cs := #[.int .i64 0, .int .i64 0, .string (⟨#[]⟩ : ByteArray), .slice none 0 0]) (t := 26) ?hr ?_; (case hd => rfl); (case hg => rfl); (case hr => first | (go_simp; done) | (go_simp; rfl)); intro gb267 hg w26 hbox hb; have BK267 := Aside0.mk (hbox)
            have GW267 := (zq hg : Aside0 (w.heap.size ≤ gb267))
            have GE267 := (zq hg : Aside0 (w.heap.size ≤ gb267))
            replace HB := (zB hb)
            have NB252_267 := (zl hg BK252 : Aside0 (gb252 ≠ gb267))
            have NB267_252 := (zl' hg BK252 : Aside0 (gb267 ≠ gb252))
            replace BK252 := (zK BK252 hb)
            have NB253_267 := (zl hg BK253 : Aside0 (gb253 ≠ gb267))
            have NB267_253 := (zl' hg BK253 : Aside0 (gb267 ≠ gb253))
            replace BK253 := (zK BK253 hb)
            have NB266_267 := (zl hg BK266 : Aside0 (gb266 ≠ gb267))
            have NB267_266 := (zl' hg BK266 : Aside0 (gb267 ≠ gb266))
            replace BK266 := (zK BK266 hb)
            clear hb hbox hg; refine hK.out _ _ ⟨(blk_cell BK252.out 0).trans rfl, (blk_cell BK252.out 1).trans rfl, (blk_cell BK252.out 2).trans rfl, (blk_cell BK252.out 3).trans rfl, (blk_cell BK253.out 0).trans rfl, (blk_cell BK253.out 1).trans rfl, (blk_cell BK253.out 2).trans rfl, (blk_cell BK253.out 3).trans rfl⟩ (fun hHeld => ?_); clear hK K; refine norm_ (a' := ?_) ?_ ?_; rotate_left
            ·show Act.put _ (some 6) _ = _
             simp only [Act.put, List.setIfInBounds_toArray, List.set_cons_zero, List.set_cons_succ, i64_w, i32_w]; rfl
            exact zN (hJ4_5 (gb266, gb267) _ ⟨hHeld, (Cl.blk BK252.out), (Cl.blk BK253.out), (Cl.blk BK266.out), (Cl.blk BK267.out), GW266.out, GE266.out, NB252_266.out, NB266_252.out, NB253_266.out, NB266_253.out, NB267_266.out, NB266_267.out, GW267.out, GE267.out, NB252_267.out, NB267_252.out, NB253_267.out, NB267_253.out, zb⟩)
         ·skip
          rintro v258 w25 ⟨hS_, h0_, h1_, h2_, h3_⟩
          have HO259 := (⟨h0_⟩ : Aside0 (Kd.R k26 26 w25 w.heap.size (fun k_ => k_ ≠ gb252 ∧ k_ ≠ gb253) v258 t257))
          replace BK252 := (⟨h1_⟩ : Aside0 (w25.heap[gb252]? = some (.cells #[.int .i64 a0_0, .int .i64 a0_1, .string a0_2, .slice A0_3 l0_3.length c0_3] 26 (0, 0))))
          replace BK253 := (⟨h2_⟩ : Aside0 (w25.heap[gb253]? = some (.cells #[.int .i64 a1_0, .int .i64 a1_1, .string a1_2, .slice A1_3 l1_3.length c1_3] 26 (0, 0))))
          replace HB := (⟨h3_⟩ : Aside0 (Below w.heap.size w w25))
          clear h0_ h1_ h2_ h3_; have hHeld : w25.cell? ⟨gb252, 0, none⟩ = some (.int .i64 a0_0) ∧ w25.cell? ⟨gb252, 1, none⟩ = some (.int .i64 a0_1) ∧ w25.cell? ⟨gb252, 2, none⟩ = some (.string a0_2) ∧ w25.cell? ⟨gb252, 3, none⟩ = some (.slice A0_3 l0_3.length c0_3) ∧ w25.cell? ⟨gb253, 0, none⟩ = some (.int .i64 a1_0) ∧ w25.cell? ⟨gb253, 1, none⟩ = some (.int .i64 a1_1) ∧ w25.cell? ⟨gb253, 2, none⟩ = some (.string a1_2) ∧ w25.cell? ⟨gb253, 3, none⟩ = some (.slice A1_3 l1_3.length c1_3) := hS_; refine norm_ (a' := ?_) ?_ ?_; rotate_left
          ·simp only [putAll, Act.put, List.setIfInBounds_toArray, List.set_cons_zero, List.set_cons_succ]; rfl
          refine three_ (i := 3) (j := 4) (k := 5) (Ni := some 15) (Nj := some 5) (Nk := some 6) #[true, true, true, true, false, false, false, false] #[true, true, true, false, true, false, false, false] #[true, true, true, false, false, true, false, false] rfl rfl rfl rfl rfl rfl (three_of HT_.out (by kernel_rfl)) (by decide) (by decide) (by decide) (fun K hK => ?_) (fun K hK => ?_) (fun K hK => ?_)
          ·skip
           refine goes_ Try.func15 (by kernel_rfl) rfl #[.agg #[.int .i64 a1_0, .int .i64 a1_1, .string a1_2, .slice A1_3 l1_3.length c1_3]] (by rfl) rfl rfl (by (try simp only [List.map_toArray, List.map_cons, List.map_nil]); first | done | rfl | (simp only [List.length_drop, List.length_take]; rfl)) ?_
           with_reducible refine (marginalialaw05_cut.calls k a1_0 a1_1 a1_2 _ _ l1_3 t260 t261 t262 t263 _ ?side1 ?side2 A4.out).mono ?_
           (case side1 => exact zC HR1_3)
           (case side2 => exact HC1_3.out)
           rintro e w26 ⟨v264, rfl, ho0, hb⟩; refine ⟨_, rfl, ?_⟩; have HO265 := Aside0.mk (Kd.R_lower (Kd.R_newB (Kd.R_newB (Kd.R_new' ho0 (Kd.R_lt (zR HO259))) (g := gb252) (o := .cells #[.int .i64 a0_0, .int .i64 a0_1, .string a0_2, .slice A0_3 l0_3.length c0_3] 26 (0, 0)) (Cl.blk BK252.out)) (g := gb253) (o := .cells #[.int .i64 a1_0, .int .i64 a1_1, .string a1_2, .slice A1_3 l1_3.length c1_3] 26 (0, 0)) (Cl.blk BK253.out)) (below_size zb)); replace HO259 := Aside0.mk (Kd.R_elder' (zR HO259) (Kd.R_base ho0) hb)
           replace BK252 := (zK BK252 hb)
           replace BK253 := (zK BK253 hb)
           replace HB := (zB hb)
           (try clear hb)
           (try clear hb2)
           (try clear hk)
           (try clear hi)
           (try clear ho0)
           refine hK.out _ _ ⟨(blk_cell BK252.out 0).trans rfl, (blk_cell BK252.out 1).trans rfl, (blk_cell BK252.out 2).trans rfl, (blk_cell BK252.out 3).trans rfl, (blk_cell BK253.out 0).trans rfl, (blk_cell BK253.out 1).trans rfl, (blk_cell BK253.out 2).trans rfl, (blk_cell BK253.out 3).trans rfl⟩ (fun hHeld => ?_); clear hK K; refine norm_ (a' := ?_) ?_ ?_; rotate_left
           ·show Act.put _ (some 15) _ = _
            simp only [Act.put, List.setIfInBounds_toArray, List.set_cons_zero, List.set_cons_succ, i64_w, i32_w]; rfl
           exact zN (hJ1_3 (v258, v264) _ ⟨hHeld, (zRm HO259 (fun _ hk => ⟨hk.2, ⟨hk.1.1, hk.1.2⟩⟩)), (zRm HO265 (fun _ hk => ⟨hk.1.1.2, ⟨hk.1.2, hk.2⟩⟩)), (Cl.blk BK252.out), (Cl.blk BK253.out), zb⟩)
          ·skip
           refine box_step ?hg (N := 5) ?hd (cs := #[.int .i64 0, .int .i64 0, .string (⟨#[]⟩ : ByteArray), .slice none 0 0]) (t := 26) ?hr ?_; (case hd => rfl); (case hg => rfl); (case hr => first | (go_simp; done) | (go_simp; rfl)); intro gb266 hg w26 hbox hb; replace HO259 := Aside0.mk (Kd.R_below (Kd.R_elderB (zR HO259) gb266 (Nat.le_of_eq hg.symm)) hb); have BK266 := Aside0.mk (hbox)
           have GW266 := (zq hg : Aside0 (w.heap.size ≤ gb266))
           have GE266 := (zq hg : Aside0 (w.heap.size ≤ gb266))
           replace HB := (zB hb)
           have NB252_266 := (zl hg BK252 : Aside0 (gb252 ≠ gb266))
           have NB266_252 := (zl' hg BK252 : Aside0 (gb266 ≠ gb252))
           replace BK252 := (zK BK252 hb)
           have NB253_266 := (zl hg BK253 : Aside0 (gb253 ≠ gb266))
           have NB266_253 := (zl' hg BK253 : Aside0 (gb266 ≠ gb253))
           replace BK253 := (zK BK253 hb)
           clear hb hbox hg; refine hK.out _ _ ⟨(blk_cell BK252.out 0).trans rfl, (blk_cell BK252.out 1).trans rfl, (blk_cell BK252.out 2).trans rfl, (blk_cell BK252.out 3).trans rfl, (blk_cell BK253.out 0).trans rfl, (blk_cell BK253.out 1).trans rfl, (blk_cell BK253.out 2).trans rfl, (blk_cell BK253.out 3).trans rfl⟩ (fun hHeld => ?_); clear hK K; refine norm_ (a' := ?_) ?_ ?_; rotate_left
           ·show Act.put _ (some 5) _ = _
            simp only [Act.put, List.setIfInBounds_toArray, List.set_cons_zero, List.set_cons_succ, i64_w, i32_w]; rfl
           exact zN (hJ1_4 (v258, gb266) _ ⟨hHeld, (zRm HO259 (fun _ hk => ⟨hk.1.1, ⟨hk.1.2, hk.2⟩⟩)), (Cl.blk BK252.out), (Cl.blk BK253.out), (Cl.blk BK266.out), GW266.out, GE266.out, NB252_266.out, NB266_252.out, NB253_266.out, NB266_253.out, zb⟩)
          ·skip
           refine box_step ?hg (N := 6) ?hd (cs := #[.int .i64 0, .int .i64 0, .string (⟨#[]⟩ : ByteArray), .slice none 0 0]) (t := 26) ?hr ?_; (case hd => rfl); (case hg => rfl); (case hr => first | (go_simp; done) | (go_simp; rfl)); intro gb267 hg w26 hbox hb; replace HO259 := Aside0.mk (Kd.R_below (Kd.R_elderB (zR HO259) gb267 (Nat.le_of_eq hg.symm)) hb); have BK267 := Aside0.mk (hbox)
           have GW267 := (zq hg : Aside0 (w.heap.size ≤ gb267))
           have GE267 := (zq hg : Aside0 (w.heap.size ≤ gb267))
           replace HB := (zB hb)
           have NB252_267 := (zl hg BK252 : Aside0 (gb252 ≠ gb267))
           have NB267_252 := (zl' hg BK252 : Aside0 (gb267 ≠ gb252))
           replace BK252 := (zK BK252 hb)
           have NB253_267 := (zl hg BK253 : Aside0 (gb253 ≠ gb267))
           have NB267_253 := (zl' hg BK253 : Aside0 (gb267 ≠ gb253))
           replace BK253 := (zK BK253 hb)
           clear hb hbox hg; refine hK.out _ _ ⟨(blk_cell BK252.out 0).trans rfl, (blk_cell BK252.out 1).trans rfl, (blk_cell BK252.out 2).trans rfl, (blk_cell BK252.out 3).trans rfl, (blk_cell BK253.out 0).trans rfl, (blk_cell BK253.out 1).trans rfl, (blk_cell BK253.out 2).trans rfl, (blk_cell BK253.out 3).trans rfl⟩ (fun hHeld => ?_); clear hK K; refine norm_ (a' := ?_) ?_ ?_; rotate_left
           ·show Act.put _ (some 6) _ = _
            simp only [Act.put, List.setIfInBounds_toArray, List.set_cons_zero, List.set_cons_succ, i64_w, i32_w]; rfl
           exact zN (hJ1_5 (v258, gb267) _ ⟨hHeld, (zRm HO259 (fun _ hk => ⟨hk.1.1, ⟨hk.1.2, hk.2⟩⟩)), (Cl.blk BK252.out), (Cl.blk BK253.out), (Cl.blk BK267.out), GW267.out, GE267.out, NB252_267.out, NB267_252.out, NB253_267.out, NB267_253.out, zb⟩)
        ·skip
         rintro ⟨gb266, gb267⟩ w26 ⟨hS_, h0_, h1_, h2_, h3_, h4_, h5_, h6_, h7_, h8_, h9_, h10_, h11_, h12_, h13_, h14_, h15_, h16_, h17_, h18_⟩
         replace BK252 := (⟨h0_⟩ : Aside0 (w26.heap[gb252]? = some (.cells #[.int .i64 a0_0, .int .i64 a0_1, .string a0_2, .slice A0_3 l0_3.length c0_3] 26 (0, 0))))
         replace BK253 := (⟨h1_⟩ : Aside0 (w26.heap[gb253]? = some (.cells #[.int .i64 a1_0, .int .i64 a1_1, .string a1_2, .slice A1_3 l1_3.length c1_3] 26 (0, 0))))
         have BK266 := (⟨h2_⟩ : Aside0 (w26.heap[gb266]? = some (.cells #[.int .i64 0, .int .i64 0, .string (⟨#[]⟩ : ByteArray), .slice none 0 0] 26 (0, 0))))
         have BK267 := (⟨h3_⟩ : Aside0 (w26.heap[gb267]? = some (.cells #[.int .i64 0, .int .i64 0, .string (⟨#[]⟩ : ByteArray), .slice none 0 0] 26 (0, 0))))
         have GW266 := (⟨h4_⟩ : Aside0 (w.heap.size ≤ gb266))
         have GE266 := (⟨h5_⟩ : Aside0 (w.heap.size ≤ gb266))
         have NB252_266 := (⟨h6_⟩ : Aside0 (gb252 ≠ gb266))
         have NB266_252 := (⟨h7_⟩ : Aside0 (gb266 ≠ gb252))
         have NB253_266 := (⟨h8_⟩ : Aside0 (gb253 ≠ gb266))
         have NB266_253 := (⟨h9_⟩ : Aside0 (gb266 ≠ gb253))
         have NB267_266 := (⟨h10_⟩ : Aside0 (gb267 ≠ gb266))
         have NB266_267 := (⟨h11_⟩ : Aside0 (gb266 ≠ gb267))
         have GW267 := (⟨h12_⟩ : Aside0 (w.heap.size ≤ gb267))
         have GE267 := (⟨h13_⟩ : Aside0 (w.heap.size ≤ gb267))
         have NB252_267 := (⟨h14_⟩ : Aside0 (gb252 ≠ gb267))
         have NB267_252 := (⟨h15_⟩ : Aside0 (gb267 ≠ gb252))
         have NB253_267 := (⟨h16_⟩ : Aside0 (gb253 ≠ gb267))
         have NB267_253 := (⟨h17_⟩ : Aside0 (gb267 ≠ gb253))
         replace HB := (⟨h18_⟩ : Aside0 (Below w.heap.size w w26))
         clear h0_ h1_ h2_ h3_ h4_ h5_ h6_ h7_ h8_ h9_ h10_ h11_ h12_ h13_ h14_ h15_ h16_ h17_ h18_; have hHeld : w26.cell? ⟨gb252, 0, none⟩ = some (.int .i64 a0_0) ∧ w26.cell? ⟨gb252, 1, none⟩ = some (.int .i64 a0_1) ∧ w26.cell? ⟨gb252, 2, none⟩ = some (.string a0_2) ∧ w26.cell? ⟨gb252, 3, none⟩ = some (.slice A0_3 l0_3.length c0_3) ∧ w26.cell? ⟨gb253, 0, none⟩ = some (.int .i64 a1_0) ∧ w26.cell? ⟨gb253, 1, none⟩ = some (.int .i64 a1_1) ∧ w26.cell? ⟨gb253, 2, none⟩ = some (.string a1_2) ∧ w26.cell? ⟨gb253, 3, none⟩ = some (.slice A1_3 l1_3.length c1_3) := hS_; refine norm_ (a' := ?_) ?_ ?_; rotate_left
         ·simp only [putAll, Act.put, List.setIfInBounds_toArray, List.set_cons_zero, List.set_cons_succ]; rfl
         refine one_ (i := 1) (N := some 13) #[true, true, true, false, true, true, false, false] rfl rfl (one_of HT_.out (by kernel_rfl)) (by decide) (fun K hK => ?_); refine goes_ Try.func15 (by kernel_rfl) rfl #[.agg #[.int .i64 a0_0, .int .i64 a0_1, .string a0_2, .slice A0_3 l0_3.length c0_3]] (by rfl) rfl rfl (by (try simp only [List.map_toArray, List.map_cons, List.map_nil]); first | done | rfl | (simp only [List.length_drop, List.length_take]; rfl)) ?_
         with_reducible refine (marginalialaw05_cut.calls k a0_0 a0_1 a0_2 _ _ l0_3 t254 t255 t256 t257 _ ?side1 ?side2 A3.out).mono ?_
         (case side1 => exact zC HR0_3)
         (case side2 => exact HC0_3.out)
         rintro e w27 ⟨v258, rfl, ho0, hb⟩; refine ⟨_, rfl, ?_⟩; have HO259 := Aside0.mk (Kd.R_lower (Kd.R_newB (Kd.R_newB (Kd.R_newB (Kd.R_newB ho0 (g := gb252) (o := .cells #[.int .i64 a0_0, .int .i64 a0_1, .string a0_2, .slice A0_3 l0_3.length c0_3] 26 (0, 0)) (Cl.blk BK252.out)) (g := gb253) (o := .cells #[.int .i64 a1_0, .int .i64 a1_1, .string a1_2, .slice A1_3 l1_3.length c1_3] 26 (0, 0)) (Cl.blk BK253.out)) (g := gb266) (o := .cells #[.int .i64 0, .int .i64 0, .string (⟨#[]⟩ : ByteArray), .slice none 0 0] 26 (0, 0)) (Cl.blk BK266.out)) (g := gb267) (o := .cells #[.int .i64 0, .int .i64 0, .string (⟨#[]⟩ : ByteArray), .slice none 0 0] 26 (0, 0)) (Cl.blk BK267.out)) (below_size zb))
         replace BK252 := (zK BK252 hb)
         replace BK253 := (zK BK253 hb)
         replace BK266 := (zK BK266 hb)
         replace BK267 := (zK BK267 hb)
         replace HB := (zB hb)
         (try clear hb)
         (try clear hb2)
         (try clear hk)
         (try clear hi)
         (try clear ho0)
         refine hK.out _ _ ⟨(blk_cell BK252.out 0).trans rfl, (blk_cell BK252.out 1).trans rfl, (blk_cell BK252.out 2).trans rfl, (blk_cell BK252.out 3).trans rfl, (blk_cell BK253.out 0).trans rfl, (blk_cell BK253.out 1).trans rfl, (blk_cell BK253.out 2).trans rfl, (blk_cell BK253.out 3).trans rfl⟩ (fun hHeld => ?_); clear hK K; refine norm_ (a' := ?_) ?_ ?_; rotate_left
         ·show Act.put _ (some 13) _ = _
          simp only [Act.put, List.setIfInBounds_toArray, List.set_cons_zero, List.set_cons_succ, i64_w, i32_w]; rfl
         exact zN (hJ1_4_5 (v258, gb266, gb267) _ ⟨hHeld, (zRm HO259 (fun _ hk => ⟨hk.1.1.1.2, ⟨hk.1.1.2, ⟨hk.1.2, hk.2⟩⟩⟩)), (Cl.blk BK252.out), (Cl.blk BK253.out), (Cl.blk BK266.out), (Cl.blk BK267.out), GW266.out, GE266.out, NB252_266.out, NB266_252.out, NB253_266.out, NB266_253.out, NB267_266.out, NB266_267.out, GW267.out, GE267.out, NB252_267.out, NB267_252.out, NB253_267.out, NB267_253.out, zb⟩)
       ·skip
        rintro ⟨v258, gb267⟩ w26 ⟨hS_, h0_, h1_, h2_, h3_, h4_, h5_, h6_, h7_, h8_, h9_, h10_⟩
        have HO259 := (⟨h0_⟩ : Aside0 (Kd.R k26 26 w26 w.heap.size (fun k_ => k_ ≠ gb252 ∧ k_ ≠ gb253 ∧ k_ ≠ gb267) v258 t257))
        replace BK252 := (⟨h1_⟩ : Aside0 (w26.heap[gb252]? = some (.cells #[.int .i64 a0_0, .int .i64 a0_1, .string a0_2, .slice A0_3 l0_3.length c0_3] 26 (0, 0))))
        replace BK253 := (⟨h2_⟩ : Aside0 (w26.heap[gb253]? = some (.cells #[.int .i64 a1_0, .int .i64 a1_1, .string a1_2, .slice A1_3 l1_3.length c1_3] 26 (0, 0))))
        have BK267 := (⟨h3_⟩ : Aside0 (w26.heap[gb267]? = some (.cells #[.int .i64 0, .int .i64 0, .string (⟨#[]⟩ : ByteArray), .slice none 0 0] 26 (0, 0))))
        have GW267 := (⟨h4_⟩ : Aside0 (w.heap.size ≤ gb267))
        have GE267 := (⟨h5_⟩ : Aside0 (w.heap.size ≤ gb267))
        have NB252_267 := (⟨h6_⟩ : Aside0 (gb252 ≠ gb267))
        have NB267_252 := (⟨h7_⟩ : Aside0 (gb267 ≠ gb252))
        have NB253_267 := (⟨h8_⟩ : Aside0 (gb253 ≠ gb267))
        have NB267_253 := (⟨h9_⟩ : Aside0 (gb267 ≠ gb253))
        replace HB := (⟨h10_⟩ : Aside0 (Below w.heap.size w w26))
        clear h0_ h1_ h2_ h3_ h4_ h5_ h6_ h7_ h8_ h9_ h10_; have hHeld : w26.cell? ⟨gb252, 0, none⟩ = some (.int .i64 a0_0) ∧ w26.cell? ⟨gb252, 1, none⟩ = some (.int .i64 a0_1) ∧ w26.cell? ⟨gb252, 2, none⟩ = some (.string a0_2) ∧ w26.cell? ⟨gb252, 3, none⟩ = some (.slice A0_3 l0_3.length c0_3) ∧ w26.cell? ⟨gb253, 0, none⟩ = some (.int .i64 a1_0) ∧ w26.cell? ⟨gb253, 1, none⟩ = some (.int .i64 a1_1) ∧ w26.cell? ⟨gb253, 2, none⟩ = some (.string a1_2) ∧ w26.cell? ⟨gb253, 3, none⟩ = some (.slice A1_3 l1_3.length c1_3) := hS_; refine norm_ (a' := ?_) ?_ ?_; rotate_left
        ·simp only [putAll, Act.put, List.setIfInBounds_toArray, List.set_cons_zero, List.set_cons_succ]; rfl
        refine two_ (i := 3) (j := 4) (Ni := some 15) (Nj := some 5) #[true, true, true, true, false, true, false, false] #[true, true, true, false, true, true, false, false] rfl rfl rfl rfl (two_of HT_.out (by kernel_rfl)) (by decide) (by decide) (fun K hK => ?_) (fun K hK => ?_)
        ·skip
         refine goes_ Try.func15 (by kernel_rfl) rfl #[.agg #[.int .i64 a1_0, .int .i64 a1_1, .string a1_2, .slice A1_3 l1_3.length c1_3]] (by rfl) rfl rfl (by (try simp only [List.map_toArray, List.map_cons, List.map_nil]); first | done | rfl | (simp only [List.length_drop, List.length_take]; rfl)) ?_
         with_reducible refine (marginalialaw05_cut.calls k a1_0 a1_1 a1_2 _ _ l1_3 t260 t261 t262 t263 _ ?side1 ?side2 A4.out).mono ?_
         (case side1 => exact zC HR1_3)
         (case side2 => exact HC1_3.out)
         rintro e w27 ⟨v264, rfl, ho0, hb⟩; refine ⟨_, rfl, ?_⟩; have HO265 := Aside0.mk (Kd.R_lower (Kd.R_newB (Kd.R_newB (Kd.R_newB (Kd.R_new' ho0 (Kd.R_lt (zR HO259))) (g := gb252) (o := .cells #[.int .i64 a0_0, .int .i64 a0_1, .string a0_2, .slice A0_3 l0_3.length c0_3] 26 (0, 0)) (Cl.blk BK252.out)) (g := gb253) (o := .cells #[.int .i64 a1_0, .int .i64 a1_1, .string a1_2, .slice A1_3 l1_3.length c1_3] 26 (0, 0)) (Cl.blk BK253.out)) (g := gb267) (o := .cells #[.int .i64 0, .int .i64 0, .string (⟨#[]⟩ : ByteArray), .slice none 0 0] 26 (0, 0)) (Cl.blk BK267.out)) (below_size zb)); replace HO259 := Aside0.mk (Kd.R_elder' (zR HO259) (Kd.R_base ho0) hb)
         replace BK252 := (zK BK252 hb)
         replace BK253 := (zK BK253 hb)
         replace BK267 := (zK BK267 hb)
         replace HB := (zB hb)
         (try clear hb)
         (try clear hb2)
         (try clear hk)
         (try clear hi)
         (try clear ho0)
         refine hK.out _ _ ⟨(blk_cell BK252.out 0).trans rfl, (blk_cell BK252.out 1).trans rfl, (blk_cell BK252.out 2).trans rfl, (blk_cell BK252.out 3).trans rfl, (blk_cell BK253.out 0).trans rfl, (blk_cell BK253.out 1).trans rfl, (blk_cell BK253.out 2).trans rfl, (blk_cell BK253.out 3).trans rfl⟩ (fun hHeld => ?_); clear hK K; refine norm_ (a' := ?_) ?_ ?_; rotate_left
         ·show Act.put _ (some 15) _ = _
          simp only [Act.put, List.setIfInBounds_toArray, List.set_cons_zero, List.set_cons_succ, i64_w, i32_w]; rfl
         exact zN (hJ1_3_5 (v258, v264, gb267) _ ⟨hHeld, (zRm HO259 (fun _ hk => ⟨hk.2, ⟨hk.1.1, ⟨hk.1.2.1, hk.1.2.2⟩⟩⟩)), (zRm HO265 (fun _ hk => ⟨hk.1.1.1.2, ⟨hk.1.1.2, ⟨hk.1.2, hk.2⟩⟩⟩)), (Cl.blk BK252.out), (Cl.blk BK253.out), (Cl.blk BK267.out), GW267.out, GE267.out, NB252_267.out, NB267_252.out, NB253_267.out, NB267_253.out, zb⟩)
        ·skip
         refine box_step ?hg (N := 5) ?hd (cs := #[.int .i64 0, .int .i64 0, .string (⟨#[]⟩ : ByteArray), .slice none 0 0]) (t := 26) ?hr ?_; (case hd => rfl); (case hg => rfl); (case hr => first | (go_simp; done) | (go_simp; rfl)); intro gb266 hg w27 hbox hb; replace HO259 := Aside0.mk (Kd.R_below (Kd.R_elderB (zR HO259) gb266 (Nat.le_of_eq hg.symm)) hb); have BK266 := Aside0.mk (hbox)
         have GW266 := (zq hg : Aside0 (w.heap.size ≤ gb266))
         have GE266 := (zq hg : Aside0 (w.heap.size ≤ gb266))
         replace HB := (zB hb)
         have NB252_266 := (zl hg BK252 : Aside0 (gb252 ≠ gb266))
         have NB266_252 := (zl' hg BK252 : Aside0 (gb266 ≠ gb252))
         replace BK252 := (zK BK252 hb)
         have NB253_266 := (zl hg BK253 : Aside0 (gb253 ≠ gb266))
         have NB266_253 := (zl' hg BK253 : Aside0 (gb266 ≠ gb253))
         replace BK253 := (zK BK253 hb)
         have NB267_266 := (zl hg BK267 : Aside0 (gb267 ≠ gb266))
         have NB266_267 := (zl' hg BK267 : Aside0 (gb266 ≠ gb267))
         replace BK267 := (zK BK267 hb)
         clear hb hbox hg; refine hK.out _ _ ⟨(blk_cell BK252.out 0).trans rfl, (blk_cell BK252.out 1).trans rfl, (blk_cell BK252.out 2).trans rfl, (blk_cell BK252.out 3).trans rfl, (blk_cell BK253.out 0).trans rfl, (blk_cell BK253.out 1).trans rfl, (blk_cell BK253.out 2).trans rfl, (blk_cell BK253.out 3).trans rfl⟩ (fun hHeld => ?_); clear hK K; refine norm_ (a' := ?_) ?_ ?_; rotate_left
         ·show Act.put _ (some 5) _ = _
          simp only [Act.put, List.setIfInBounds_toArray, List.set_cons_zero, List.set_cons_succ, i64_w, i32_w]; rfl
         exact zN (hJ1_4_5 (v258, gb266, gb267) _ ⟨hHeld, (zRm HO259 (fun _ hk => ⟨hk.1.1, ⟨hk.1.2.1, ⟨hk.2, hk.1.2.2⟩⟩⟩)), (Cl.blk BK252.out), (Cl.blk BK253.out), (Cl.blk BK266.out), (Cl.blk BK267.out), GW266.out, GE266.out, NB252_266.out, NB266_252.out, NB253_266.out, NB266_253.out, NB267_266.out, NB266_267.out, GW267.out, GE267.out, NB252_267.out, NB267_252.out, NB253_267.out, NB267_253.out, zb⟩)
      ·skip
       rintro ⟨v258, gb266⟩ w26 ⟨hS_, h0_, h1_, h2_, h3_, h4_, h5_, h6_, h7_, h8_, h9_, h10_⟩
       have HO259 := (⟨h0_⟩ : Aside0 (Kd.R k26 26 w26 w.heap.size (fun k_ => k_ ≠ gb252 ∧ k_ ≠ gb253 ∧ k_ ≠ gb266) v258 t257))
       replace BK252 := (⟨h1_⟩ : Aside0 (w26.heap[gb252]? = some (.cells #[.int .i64 a0_0, .int .i64 a0_1, .string a0_2, .slice A0_3 l0_3.length c0_3] 26 (0, 0))))
       replace BK253 := (⟨h2_⟩ : Aside0 (w26.heap[gb253]? = some (.cells #[.int .i64 a1_0, .int .i64 a1_1, .string a1_2, .slice A1_3 l1_3.length c1_3] 26 (0, 0))))
       have BK266 := (⟨h3_⟩ : Aside0 (w26.heap[gb266]? = some (.cells #[.int .i64 0, .int .i64 0, .string (⟨#[]⟩ : ByteArray), .slice none 0 0] 26 (0, 0))))
       have GW266 := (⟨h4_⟩ : Aside0 (w.heap.size ≤ gb266))
       have GE266 := (⟨h5_⟩ : Aside0 (w.heap.size ≤ gb266))
       have NB252_266 := (⟨h6_⟩ : Aside0 (gb252 ≠ gb266))
       have NB266_252 := (⟨h7_⟩ : Aside0 (gb266 ≠ gb252))
       have NB253_266 := (⟨h8_⟩ : Aside0 (gb253 ≠ gb266))
       have NB266_253 := (⟨h9_⟩ : Aside0 (gb266 ≠ gb253))
       replace HB := (⟨h10_⟩ : Aside0 (Below w.heap.size w w26))
       clear h0_ h1_ h2_ h3_ h4_ h5_ h6_ h7_ h8_ h9_ h10_; have hHeld : w26.cell? ⟨gb252, 0, none⟩ = some (.int .i64 a0_0) ∧ w26.cell? ⟨gb252, 1, none⟩ = some (.int .i64 a0_1) ∧ w26.cell? ⟨gb252, 2, none⟩ = some (.string a0_2) ∧ w26.cell? ⟨gb252, 3, none⟩ = some (.slice A0_3 l0_3.length c0_3) ∧ w26.cell? ⟨gb253, 0, none⟩ = some (.int .i64 a1_0) ∧ w26.cell? ⟨gb253, 1, none⟩ = some (.int .i64 a1_1) ∧ w26.cell? ⟨gb253, 2, none⟩ = some (.string a1_2) ∧ w26.cell? ⟨gb253, 3, none⟩ = some (.slice A1_3 l1_3.length c1_3) := hS_; refine norm_ (a' := ?_) ?_ ?_; rotate_left
       ·simp only [putAll, Act.put, List.setIfInBounds_toArray, List.set_cons_zero, List.set_cons_succ]; rfl
       refine two_ (i := 3) (j := 5) (Ni := some 15) (Nj := some 6) #[true, true, true, true, true, false, false, false] #[true, true, true, false, true, true, false, false] rfl rfl rfl rfl (two_of HT_.out (by kernel_rfl)) (by decide) (by decide) (fun K hK => ?_) (fun K hK => ?_)
       ·skip
        refine goes_ Try.func15 (by kernel_rfl) rfl #[.agg #[.int .i64 a1_0, .int .i64 a1_1, .string a1_2, .slice A1_3 l1_3.length c1_3]] (by rfl) rfl rfl (by (try simp only [List.map_toArray, List.map_cons, List.map_nil]); first | done | rfl | (simp only [List.length_drop, List.length_take]; rfl)) ?_
        with_reducible refine (marginalialaw05_cut.calls k a1_0 a1_1 a1_2 _ _ l1_3 t260 t261 t262 t263 _ ?side1 ?side2 A4.out).mono ?_
        (case side1 => exact zC HR1_3)
        (case side2 => exact HC1_3.out)
        rintro e w27 ⟨v264, rfl, ho0, hb⟩; refine ⟨_, rfl, ?_⟩; have HO265 := Aside0.mk (Kd.R_lower (Kd.R_newB (Kd.R_newB (Kd.R_newB (Kd.R_new' ho0 (Kd.R_lt (zR HO259))) (g := gb252) (o := .cells #[.int .i64 a0_0, .int .i64 a0_1, .string a0_2, .slice A0_3 l0_3.length c0_3] 26 (0, 0)) (Cl.blk BK252.out)) (g := gb253) (o := .cells #[.int .i64 a1_0, .int .i64 a1_1, .string a1_2, .slice A1_3 l1_3.length c1_3] 26 (0, 0)) (Cl.blk BK253.out)) (g := gb266) (o := .cells #[.int .i64 0, .int .i64 0, .string (⟨#[]⟩ : ByteArray), .slice none 0 0] 26 (0, 0)) (Cl.blk BK266.out)) (below_size zb)); replace HO259 := Aside0.mk (Kd.R_elder' (zR HO259) (Kd.R_base ho0) hb)
        replace BK252 := (zK BK252 hb)
        replace BK253 := (zK BK253 hb)
        replace BK266 := (zK BK266 hb)
        replace HB := (zB hb)
        (try clear hb)
        (try clear hb2)
        (try clear hk)
        (try clear hi)
        (try clear ho0)
        refine hK.out _ _ ⟨(blk_cell BK252.out 0).trans rfl, (blk_cell BK252.out 1).trans rfl, (blk_cell BK252.out 2).trans rfl, (blk_cell BK252.out 3).trans rfl, (blk_cell BK253.out 0).trans rfl, (blk_cell BK253.out 1).trans rfl, (blk_cell BK253.out 2).trans rfl, (blk_cell BK253.out 3).trans rfl⟩ (fun hHeld => ?_); clear hK K; refine norm_ (a' := ?_) ?_ ?_; rotate_left
        ·show Act.put _ (some 15) _ = _
         simp only [Act.put, List.setIfInBounds_toArray, List.set_cons_zero, List.set_cons_succ, i64_w, i32_w]; rfl
        exact zN (hJ1_3_4 (v258, v264, gb266) _ ⟨hHeld, (zRm HO259 (fun _ hk => ⟨hk.2, ⟨hk.1.1, ⟨hk.1.2.1, hk.1.2.2⟩⟩⟩)), (zRm HO265 (fun _ hk => ⟨hk.1.1.1.2, ⟨hk.1.1.2, ⟨hk.1.2, hk.2⟩⟩⟩)), (Cl.blk BK252.out), (Cl.blk BK253.out), (Cl.blk BK266.out), GW266.out, GE266.out, NB252_266.out, NB266_252.out, NB253_266.out, NB266_253.out, zb⟩)
       ·skip
        refine box_step ?hg (N := 6) ?hd (cs := #[.int .i64 0, .int .i64 0, .string (⟨#[]⟩ : ByteArray), .slice none 0 0]) (t := 26) ?hr ?_; (case hd => rfl); (case hg => rfl); (case hr => first | (go_simp; done) | (go_simp; rfl)); intro gb267 hg w27 hbox hb; replace HO259 := Aside0.mk (Kd.R_below (Kd.R_elderB (zR HO259) gb267 (Nat.le_of_eq hg.symm)) hb); have BK267 := Aside0.mk (hbox)
        have GW267 := (zq hg : Aside0 (w.heap.size ≤ gb267))
        have GE267 := (zq hg : Aside0 (w.heap.size ≤ gb267))
        replace HB := (zB hb)
        have NB252_267 := (zl hg BK252 : Aside0 (gb252 ≠ gb267))
        have NB267_252 := (zl' hg BK252 : Aside0 (gb267 ≠ gb252))
        replace BK252 := (zK BK252 hb)
        have NB253_267 := (zl hg BK253 : Aside0 (gb253 ≠ gb267))
        have NB267_253 := (zl' hg BK253 : Aside0 (gb267 ≠ gb253))
        replace BK253 := (zK BK253 hb)
        have NB266_267 := (zl hg BK266 : Aside0 (gb266 ≠ gb267))
        have NB267_266 := (zl' hg BK266 : Aside0 (gb267 ≠ gb266))
        replace BK266 := (zK BK266 hb)
        clear hb hbox hg; refine hK.out _ _ ⟨(blk_cell BK252.out 0).trans rfl, (blk_cell BK252.out 1).trans rfl, (blk_cell BK252.out 2).trans rfl, (blk_cell BK252.out 3).trans rfl, (blk_cell BK253.out 0).trans rfl, (blk_cell BK253.out 1).trans rfl, (blk_cell BK253.out 2).trans rfl, (blk_cell BK253.out 3).trans rfl⟩ (fun hHeld => ?_); clear hK K; refine norm_ (a' := ?_) ?_ ?_; rotate_left
        ·show Act.put _ (some 6) _ = _
         simp only [Act.put, List.setIfInBounds_toArray, List.set_cons_zero, List.set_cons_succ, i64_w, i32_w]; rfl
        exact zN (hJ1_4_5 (v258, gb266, gb267) _ ⟨hHeld, (zRm HO259 (fun _ hk => ⟨hk.1.1, ⟨hk.1.2.1, ⟨hk.1.2.2, hk.2⟩⟩⟩)), (Cl.blk BK252.out), (Cl.blk BK253.out), (Cl.blk BK266.out), (Cl.blk BK267.out), GW266.out, GE266.out, NB252_266.out, NB266_252.out, NB253_266.out, NB266_253.out, NB267_266.out, NB266_267.out, GW267.out, GE267.out, NB252_267.out, NB267_252.out, NB253_267.out, NB267_253.out, zb⟩)
     ·skip
      rintro ⟨v258, v264⟩ w26 ⟨hS_, h0_, h1_, h2_, h3_, h4_⟩
      have HO259 := (⟨h0_⟩ : Aside0 (Kd.R k26 26 w26 w.heap.size (fun k_ => some k_ ≠ (v264 : Value).ownBlock ∧ k_ ≠ gb252 ∧ k_ ≠ gb253) v258 t257))
      have HO265 := (⟨h1_⟩ : Aside0 (Kd.R k26 26 w26 w.heap.size (fun k_ => some k_ ≠ (v258 : Value).ownBlock ∧ k_ ≠ gb252 ∧ k_ ≠ gb253) v264 t263))
      replace BK252 := (⟨h2_⟩ : Aside0 (w26.heap[gb252]? = some (.cells #[.int .i64 a0_0, .int .i64 a0_1, .string a0_2, .slice A0_3 l0_3.length c0_3] 26 (0, 0))))
      replace BK253 := (⟨h3_⟩ : Aside0 (w26.heap[gb253]? = some (.cells #[.int .i64 a1_0, .int .i64 a1_1, .string a1_2, .slice A1_3 l1_3.length c1_3] 26 (0, 0))))
      replace HB := (⟨h4_⟩ : Aside0 (Below w.heap.size w w26))
      clear h0_ h1_ h2_ h3_ h4_; have hHeld : w26.cell? ⟨gb252, 0, none⟩ = some (.int .i64 a0_0) ∧ w26.cell? ⟨gb252, 1, none⟩ = some (.int .i64 a0_1) ∧ w26.cell? ⟨gb252, 2, none⟩ = some (.string a0_2) ∧ w26.cell? ⟨gb252, 3, none⟩ = some (.slice A0_3 l0_3.length c0_3) ∧ w26.cell? ⟨gb253, 0, none⟩ = some (.int .i64 a1_0) ∧ w26.cell? ⟨gb253, 1, none⟩ = some (.int .i64 a1_1) ∧ w26.cell? ⟨gb253, 2, none⟩ = some (.string a1_2) ∧ w26.cell? ⟨gb253, 3, none⟩ = some (.slice A1_3 l1_3.length c1_3) := hS_; refine norm_ (a' := ?_) ?_ ?_; rotate_left
      ·simp only [putAll, Act.put, List.setIfInBounds_toArray, List.set_cons_zero, List.set_cons_succ]; rfl
      refine two_ (i := 4) (j := 5) (Ni := some 5) (Nj := some 6) #[true, true, true, true, true, false, false, false] #[true, true, true, true, false, true, false, false] rfl rfl rfl rfl (two_of HT_.out (by kernel_rfl)) (by decide) (by decide) (fun K hK => ?_) (fun K hK => ?_)
      ·skip
       refine box_step ?hg (N := 5) ?hd (cs := #[.int .i64 0, .int .i64 0, .string (⟨#[]⟩ : ByteArray), .slice none 0 0]) (t := 26) ?hr ?_; (case hd => rfl); (case hg => rfl); (case hr => first | (go_simp; done) | (go_simp; rfl)); intro gb266 hg w27 hbox hb; replace HO259 := Aside0.mk (Kd.R_below (Kd.R_elderB (zR HO259) gb266 (Nat.le_of_eq hg.symm)) hb); replace HO265 := Aside0.mk (Kd.R_below (Kd.R_elderB (zR HO265) gb266 (Nat.le_of_eq hg.symm)) hb); have BK266 := Aside0.mk (hbox)
       have GW266 := (zq hg : Aside0 (w.heap.size ≤ gb266))
       have GE266 := (zq hg : Aside0 (w.heap.size ≤ gb266))
       replace HB := (zB hb)
       have NB252_266 := (zl hg BK252 : Aside0 (gb252 ≠ gb266))
       have NB266_252 := (zl' hg BK252 : Aside0 (gb266 ≠ gb252))
       replace BK252 := (zK BK252 hb)
       have NB253_266 := (zl hg BK253 : Aside0 (gb253 ≠ gb266))
       have NB266_253 := (zl' hg BK253 : Aside0 (gb266 ≠ gb253))
       replace BK253 := (zK BK253 hb)
       clear hb hbox hg; refine hK.out _ _ ⟨(blk_cell BK252.out 0).trans rfl, (blk_cell BK252.out 1).trans rfl, (blk_cell BK252.out 2).trans rfl, (blk_cell BK252.out 3).trans rfl, (blk_cell BK253.out 0).trans rfl, (blk_cell BK253.out 1).trans rfl, (blk_cell BK253.out 2).trans rfl, (blk_cell BK253.out 3).trans rfl⟩ (fun hHeld => ?_); clear hK K; refine norm_ (a' := ?_) ?_ ?_; rotate_left
       ·show Act.put _ (some 5) _ = _
        simp only [Act.put, List.setIfInBounds_toArray, List.set_cons_zero, List.set_cons_succ, i64_w, i32_w]; rfl
       exact zN (hJ1_3_4 (v258, v264, gb266) _ ⟨hHeld, (zRm HO259 (fun _ hk => ⟨hk.1.1, ⟨hk.1.2.1, ⟨hk.1.2.2, hk.2⟩⟩⟩)), (zRm HO265 (fun _ hk => ⟨hk.1.1, ⟨hk.1.2.1, ⟨hk.1.2.2, hk.2⟩⟩⟩)), (Cl.blk BK252.out), (Cl.blk BK253.out), (Cl.blk BK266.out), GW266.out, GE266.out, NB252_266.out, NB266_252.out, NB253_266.out, NB266_253.out, zb⟩)
      ·skip
       refine box_step ?hg (N := 6) ?hd (cs := #[.int .i64 0, .int .i64 0, .string (⟨#[]⟩ : ByteArray), .slice none 0 0]) (t := 26) ?hr ?_; (case hd => rfl); (case hg => rfl); (case hr => first | (go_simp; done) | (go_simp; rfl)); intro gb267 hg w27 hbox hb; replace HO259 := Aside0.mk (Kd.R_below (Kd.R_elderB (zR HO259) gb267 (Nat.le_of_eq hg.symm)) hb); replace HO265 := Aside0.mk (Kd.R_below (Kd.R_elderB (zR HO265) gb267 (Nat.le_of_eq hg.symm)) hb); have BK267 := Aside0.mk (hbox)
       have GW267 := (zq hg : Aside0 (w.heap.size ≤ gb267))
       have GE267 := (zq hg : Aside0 (w.heap.size ≤ gb267))
       replace HB := (zB hb)
       have NB252_267 := (zl hg BK252 : Aside0 (gb252 ≠ gb267))
       have NB267_252 := (zl' hg BK252 : Aside0 (gb267 ≠ gb252))
       replace BK252 := (zK BK252 hb)
       have NB253_267 := (zl hg BK253 : Aside0 (gb253 ≠ gb267))
       have NB267_253 := (zl' hg BK253 : Aside0 (gb267 ≠ gb253))
       replace BK253 := (zK BK253 hb)
       clear hb hbox hg; refine hK.out _ _ ⟨(blk_cell BK252.out 0).trans rfl, (blk_cell BK252.out 1).trans rfl, (blk_cell BK252.out 2).trans rfl, (blk_cell BK252.out 3).trans rfl, (blk_cell BK253.out 0).trans rfl, (blk_cell BK253.out 1).trans rfl, (blk_cell BK253.out 2).trans rfl, (blk_cell BK253.out 3).trans rfl⟩ (fun hHeld => ?_); clear hK K; refine norm_ (a' := ?_) ?_ ?_; rotate_left
       ·show Act.put _ (some 6) _ = _
        simp only [Act.put, List.setIfInBounds_toArray, List.set_cons_zero, List.set_cons_succ, i64_w, i32_w]; rfl
       exact zN (hJ1_3_5 (v258, v264, gb267) _ ⟨hHeld, (zRm HO259 (fun _ hk => ⟨hk.1.1, ⟨hk.1.2.1, ⟨hk.1.2.2, hk.2⟩⟩⟩)), (zRm HO265 (fun _ hk => ⟨hk.1.1, ⟨hk.1.2.1, ⟨hk.1.2.2, hk.2⟩⟩⟩)), (Cl.blk BK252.out), (Cl.blk BK253.out), (Cl.blk BK267.out), GW267.out, GE267.out, NB252_267.out, NB267_252.out, NB253_267.out, NB267_253.out, zb⟩)
    ·skip
     rintro ⟨v258, gb266, gb267⟩ w27 ⟨hS_, h0_, h1_, h2_, h3_, h4_, h5_, h6_, h7_, h8_, h9_, h10_, h11_, h12_, h13_, h14_, h15_, h16_, h17_, h18_, h19_⟩
     have HO259 := (⟨h0_⟩ : Aside0 (Kd.R k26 26 w27 w.heap.size (fun k_ => k_ ≠ gb252 ∧ k_ ≠ gb253 ∧ k_ ≠ gb266 ∧ k_ ≠ gb267) v258 t257))
     replace BK252 := (⟨h1_⟩ : Aside0 (w27.heap[gb252]? = some (.cells #[.int .i64 a0_0, .int .i64 a0_1, .string a0_2, .slice A0_3 l0_3.length c0_3] 26 (0, 0))))
     replace BK253 := (⟨h2_⟩ : Aside0 (w27.heap[gb253]? = some (.cells #[.int .i64 a1_0, .int .i64 a1_1, .string a1_2, .slice A1_3 l1_3.length c1_3] 26 (0, 0))))
     have BK266 := (⟨h3_⟩ : Aside0 (w27.heap[gb266]? = some (.cells #[.int .i64 0, .int .i64 0, .string (⟨#[]⟩ : ByteArray), .slice none 0 0] 26 (0, 0))))
     have BK267 := (⟨h4_⟩ : Aside0 (w27.heap[gb267]? = some (.cells #[.int .i64 0, .int .i64 0, .string (⟨#[]⟩ : ByteArray), .slice none 0 0] 26 (0, 0))))
     have GW266 := (⟨h5_⟩ : Aside0 (w.heap.size ≤ gb266))
     have GE266 := (⟨h6_⟩ : Aside0 (w.heap.size ≤ gb266))
     have NB252_266 := (⟨h7_⟩ : Aside0 (gb252 ≠ gb266))
     have NB266_252 := (⟨h8_⟩ : Aside0 (gb266 ≠ gb252))
     have NB253_266 := (⟨h9_⟩ : Aside0 (gb253 ≠ gb266))
     have NB266_253 := (⟨h10_⟩ : Aside0 (gb266 ≠ gb253))
     have NB267_266 := (⟨h11_⟩ : Aside0 (gb267 ≠ gb266))
     have NB266_267 := (⟨h12_⟩ : Aside0 (gb266 ≠ gb267))
     have GW267 := (⟨h13_⟩ : Aside0 (w.heap.size ≤ gb267))
     have GE267 := (⟨h14_⟩ : Aside0 (w.heap.size ≤ gb267))
     have NB252_267 := (⟨h15_⟩ : Aside0 (gb252 ≠ gb267))
     have NB267_252 := (⟨h16_⟩ : Aside0 (gb267 ≠ gb252))
     have NB253_267 := (⟨h17_⟩ : Aside0 (gb253 ≠ gb267))
     have NB267_253 := (⟨h18_⟩ : Aside0 (gb267 ≠ gb253))
     replace HB := (⟨h19_⟩ : Aside0 (Below w.heap.size w w27))
     clear h0_ h1_ h2_ h3_ h4_ h5_ h6_ h7_ h8_ h9_ h10_ h11_ h12_ h13_ h14_ h15_ h16_ h17_ h18_ h19_; have hHeld : w27.cell? ⟨gb252, 0, none⟩ = some (.int .i64 a0_0) ∧ w27.cell? ⟨gb252, 1, none⟩ = some (.int .i64 a0_1) ∧ w27.cell? ⟨gb252, 2, none⟩ = some (.string a0_2) ∧ w27.cell? ⟨gb252, 3, none⟩ = some (.slice A0_3 l0_3.length c0_3) ∧ w27.cell? ⟨gb253, 0, none⟩ = some (.int .i64 a1_0) ∧ w27.cell? ⟨gb253, 1, none⟩ = some (.int .i64 a1_1) ∧ w27.cell? ⟨gb253, 2, none⟩ = some (.string a1_2) ∧ w27.cell? ⟨gb253, 3, none⟩ = some (.slice A1_3 l1_3.length c1_3) := hS_; refine norm_ (a' := ?_) ?_ ?_; rotate_left
     ·simp only [putAll, Act.put, List.setIfInBounds_toArray, List.set_cons_zero, List.set_cons_succ]; rfl
     refine one_ (i := 3) (N := some 15) #[true, true, true, true, true, true, false, false] rfl rfl (one_of HT_.out (by kernel_rfl)) (by decide) (fun K hK => ?_); refine goes_ Try.func15 (by kernel_rfl) rfl #[.agg #[.int .i64 a1_0, .int .i64 a1_1, .string a1_2, .slice A1_3 l1_3.length c1_3]] (by rfl) rfl rfl (by (try simp only [List.map_toArray, List.map_cons, List.map_nil]); first | done | rfl | (simp only [List.length_drop, List.length_take]; rfl)) ?_
     with_reducible refine (marginalialaw05_cut.calls k a1_0 a1_1 a1_2 _ _ l1_3 t260 t261 t262 t263 _ ?side1 ?side2 A4.out).mono ?_
     (case side1 => exact zC HR1_3)
     (case side2 => exact HC1_3.out)
     rintro e w28 ⟨v264, rfl, ho0, hb⟩; refine ⟨_, rfl, ?_⟩; have HO265 := Aside0.mk (Kd.R_lower (Kd.R_newB (Kd.R_newB (Kd.R_newB (Kd.R_newB (Kd.R_new' ho0 (Kd.R_lt (zR HO259))) (g := gb252) (o := .cells #[.int .i64 a0_0, .int .i64 a0_1, .string a0_2, .slice A0_3 l0_3.length c0_3] 26 (0, 0)) (Cl.blk BK252.out)) (g := gb253) (o := .cells #[.int .i64 a1_0, .int .i64 a1_1, .string a1_2, .slice A1_3 l1_3.length c1_3] 26 (0, 0)) (Cl.blk BK253.out)) (g := gb266) (o := .cells #[.int .i64 0, .int .i64 0, .string (⟨#[]⟩ : ByteArray), .slice none 0 0] 26 (0, 0)) (Cl.blk BK266.out)) (g := gb267) (o := .cells #[.int .i64 0, .int .i64 0, .string (⟨#[]⟩ : ByteArray), .slice none 0 0] 26 (0, 0)) (Cl.blk BK267.out)) (below_size zb)); replace HO259 := Aside0.mk (Kd.R_elder' (zR HO259) (Kd.R_base ho0) hb)
     replace BK252 := (zK BK252 hb)
     replace BK253 := (zK BK253 hb)
     replace BK266 := (zK BK266 hb)
     replace BK267 := (zK BK267 hb)
     replace HB := (zB hb)
     (try clear hb)
     (try clear hb2)
     (try clear hk)
     (try clear hi)
     (try clear ho0)
     refine hK.out _ _ ⟨(blk_cell BK252.out 0).trans rfl, (blk_cell BK252.out 1).trans rfl, (blk_cell BK252.out 2).trans rfl, (blk_cell BK252.out 3).trans rfl, (blk_cell BK253.out 0).trans rfl, (blk_cell BK253.out 1).trans rfl, (blk_cell BK253.out 2).trans rfl, (blk_cell BK253.out 3).trans rfl⟩ (fun hHeld => ?_); clear hK K; refine norm_ (a' := ?_) ?_ ?_; rotate_left
     ·show Act.put _ (some 15) _ = _
      simp only [Act.put, List.setIfInBounds_toArray, List.set_cons_zero, List.set_cons_succ, i64_w, i32_w]; rfl
     exact zN (hJ1_3_4_5 (v258, v264, gb266, gb267) _ ⟨hHeld, (zRm HO259 (fun _ hk => ⟨hk.2, ⟨hk.1.1, ⟨hk.1.2.1, ⟨hk.1.2.2.1, hk.1.2.2.2⟩⟩⟩⟩)), (zRm HO265 (fun _ hk => ⟨hk.1.1.1.1.2, ⟨hk.1.1.1.2, ⟨hk.1.1.2, ⟨hk.1.2, hk.2⟩⟩⟩⟩)), (Cl.blk BK252.out), (Cl.blk BK253.out), (Cl.blk BK266.out), (Cl.blk BK267.out), GW266.out, GE266.out, NB252_266.out, NB266_252.out, NB253_266.out, NB266_253.out, NB267_266.out, NB266_267.out, GW267.out, GE267.out, NB252_267.out, NB267_252.out, NB253_267.out, NB267_253.out, zb⟩)
   ·skip
    rintro ⟨v258, v264, gb267⟩ w27 ⟨hS_, h0_, h1_, h2_, h3_, h4_, h5_, h6_, h7_, h8_, h9_, h10_, h11_⟩
    have HO259 := (⟨h0_⟩ : Aside0 (Kd.R k26 26 w27 w.heap.size (fun k_ => some k_ ≠ (v264 : Value).ownBlock ∧ k_ ≠ gb252 ∧ k_ ≠ gb253 ∧ k_ ≠ gb267) v258 t257))
    have HO265 := (⟨h1_⟩ : Aside0 (Kd.R k26 26 w27 w.heap.size (fun k_ => some k_ ≠ (v258 : Value).ownBlock ∧ k_ ≠ gb252 ∧ k_ ≠ gb253 ∧ k_ ≠ gb267) v264 t263))
    replace BK252 := (⟨h2_⟩ : Aside0 (w27.heap[gb252]? = some (.cells #[.int .i64 a0_0, .int .i64 a0_1, .string a0_2, .slice A0_3 l0_3.length c0_3] 26 (0, 0))))
    replace BK253 := (⟨h3_⟩ : Aside0 (w27.heap[gb253]? = some (.cells #[.int .i64 a1_0, .int .i64 a1_1, .string a1_2, .slice A1_3 l1_3.length c1_3] 26 (0, 0))))
    have BK267 := (⟨h4_⟩ : Aside0 (w27.heap[gb267]? = some (.cells #[.int .i64 0, .int .i64 0, .string (⟨#[]⟩ : ByteArray), .slice none 0 0] 26 (0, 0))))
    have GW267 := (⟨h5_⟩ : Aside0 (w.heap.size ≤ gb267))
    have GE267 := (⟨h6_⟩ : Aside0 (w.heap.size ≤ gb267))
    have NB252_267 := (⟨h7_⟩ : Aside0 (gb252 ≠ gb267))
    have NB267_252 := (⟨h8_⟩ : Aside0 (gb267 ≠ gb252))
    have NB253_267 := (⟨h9_⟩ : Aside0 (gb253 ≠ gb267))
    have NB267_253 := (⟨h10_⟩ : Aside0 (gb267 ≠ gb253))
    replace HB := (⟨h11_⟩ : Aside0 (Below w.heap.size w w27))
    clear h0_ h1_ h2_ h3_ h4_ h5_ h6_ h7_ h8_ h9_ h10_ h11_; have hHeld : w27.cell? ⟨gb252, 0, none⟩ = some (.int .i64 a0_0) ∧ w27.cell? ⟨gb252, 1, none⟩ = some (.int .i64 a0_1) ∧ w27.cell? ⟨gb252, 2, none⟩ = some (.string a0_2) ∧ w27.cell? ⟨gb252, 3, none⟩ = some (.slice A0_3 l0_3.length c0_3) ∧ w27.cell? ⟨gb253, 0, none⟩ = some (.int .i64 a1_0) ∧ w27.cell? ⟨gb253, 1, none⟩ = some (.int .i64 a1_1) ∧ w27.cell? ⟨gb253, 2, none⟩ = some (.string a1_2) ∧ w27.cell? ⟨gb253, 3, none⟩ = some (.slice A1_3 l1_3.length c1_3) := hS_; refine norm_ (a' := ?_) ?_ ?_; rotate_left
    ·simp only [putAll, Act.put, List.setIfInBounds_toArray, List.set_cons_zero, List.set_cons_succ]; rfl
    refine one_ (i := 4) (N := some 5) #[true, true, true, true, true, true, false, false] rfl rfl (one_of HT_.out (by kernel_rfl)) (by decide) (fun K hK => ?_); refine box_step ?hg (N := 5) ?hd (cs := #[.int .i64 0, .int .i64 0, .string (⟨#[]⟩ : ByteArray), .slice none 0 0]) (t := 26) ?hr ?_; (case hd => rfl); (case hg => rfl); (case hr => first | (go_simp; done) | (go_simp; rfl)); intro gb266 hg w28 hbox hb; replace HO259 := Aside0.mk (Kd.R_below (Kd.R_elderB (zR HO259) gb266 (Nat.le_of_eq hg.symm)) hb); replace HO265 := Aside0.mk (Kd.R_below (Kd.R_elderB (zR HO265) gb266 (Nat.le_of_eq hg.symm)) hb); have BK266 := Aside0.mk (hbox)
    have GW266 := (zq hg : Aside0 (w.heap.size ≤ gb266))
    have GE266 := (zq hg : Aside0 (w.heap.size ≤ gb266))
    replace HB := (zB hb)
    have NB252_266 := (zl hg BK252 : Aside0 (gb252 ≠ gb266))
    have NB266_252 := (zl' hg BK252 : Aside0 (gb266 ≠ gb252))
    replace BK252 := (zK BK252 hb)
    have NB253_266 := (zl hg BK253 : Aside0 (gb253 ≠ gb266))
    have NB266_253 := (zl' hg BK253 : Aside0 (gb266 ≠ gb253))
    replace BK253 := (zK BK253 hb)
    have NB267_266 := (zl hg BK267 : Aside0 (gb267 ≠ gb266))
    have NB266_267 := (zl' hg BK267 : Aside0 (gb266 ≠ gb267))
    replace BK267 := (zK BK267 hb)
    clear hb hbox hg; refine hK.out _ _ ⟨(blk_cell BK252.out 0).trans rfl, (blk_cell BK252.out 1).trans rfl, (blk_cell BK252.out 2).trans rfl, (blk_cell BK252.out 3).trans rfl, (blk_cell BK253.out 0).trans rfl, (blk_cell BK253.out 1).trans rfl, (blk_cell BK253.out 2).trans rfl, (blk_cell BK253.out 3).trans rfl⟩ (fun hHeld => ?_); clear hK K; refine norm_ (a' := ?_) ?_ ?_; rotate_left
    ·show Act.put _ (some 5) _ = _
     simp only [Act.put, List.setIfInBounds_toArray, List.set_cons_zero, List.set_cons_succ, i64_w, i32_w]; rfl
    exact zN (hJ1_3_4_5 (v258, v264, gb266, gb267) _ ⟨hHeld, (zRm HO259 (fun _ hk => ⟨hk.1.1, ⟨hk.1.2.1, ⟨hk.1.2.2.1, ⟨hk.2, hk.1.2.2.2⟩⟩⟩⟩)), (zRm HO265 (fun _ hk => ⟨hk.1.1, ⟨hk.1.2.1, ⟨hk.1.2.2.1, ⟨hk.2, hk.1.2.2.2⟩⟩⟩⟩)), (Cl.blk BK252.out), (Cl.blk BK253.out), (Cl.blk BK266.out), (Cl.blk BK267.out), GW266.out, GE266.out, NB252_266.out, NB266_252.out, NB253_266.out, NB266_253.out, NB267_266.out, NB266_267.out, GW267.out, GE267.out, NB252_267.out, NB267_252.out, NB253_267.out, NB267_253.out, zb⟩)
  ·skip
   rintro ⟨v258, v264, gb266⟩ w27 ⟨hS_, h0_, h1_, h2_, h3_, h4_, h5_, h6_, h7_, h8_, h9_, h10_, h11_⟩
   have HO259 := (⟨h0_⟩ : Aside0 (Kd.R k26 26 w27 w.heap.size (fun k_ => some k_ ≠ (v264 : Value).ownBlock ∧ k_ ≠ gb252 ∧ k_ ≠ gb253 ∧ k_ ≠ gb266) v258 t257))
   have HO265 := (⟨h1_⟩ : Aside0 (Kd.R k26 26 w27 w.heap.size (fun k_ => some k_ ≠ (v258 : Value).ownBlock ∧ k_ ≠ gb252 ∧ k_ ≠ gb253 ∧ k_ ≠ gb266) v264 t263))
   replace BK252 := (⟨h2_⟩ : Aside0 (w27.heap[gb252]? = some (.cells #[.int .i64 a0_0, .int .i64 a0_1, .string a0_2, .slice A0_3 l0_3.length c0_3] 26 (0, 0))))
   replace BK253 := (⟨h3_⟩ : Aside0 (w27.heap[gb253]? = some (.cells #[.int .i64 a1_0, .int .i64 a1_1, .string a1_2, .slice A1_3 l1_3.length c1_3] 26 (0, 0))))
   have BK266 := (⟨h4_⟩ : Aside0 (w27.heap[gb266]? = some (.cells #[.int .i64 0, .int .i64 0, .string (⟨#[]⟩ : ByteArray), .slice none 0 0] 26 (0, 0))))
   have GW266 := (⟨h5_⟩ : Aside0 (w.heap.size ≤ gb266))
   have GE266 := (⟨h6_⟩ : Aside0 (w.heap.size ≤ gb266))
   have NB252_266 := (⟨h7_⟩ : Aside0 (gb252 ≠ gb266))
   have NB266_252 := (⟨h8_⟩ : Aside0 (gb266 ≠ gb252))
   have NB253_266 := (⟨h9_⟩ : Aside0 (gb253 ≠ gb266))
   have NB266_253 := (⟨h10_⟩ : Aside0 (gb266 ≠ gb253))
   replace HB := (⟨h11_⟩ : Aside0 (Below w.heap.size w w27))
   clear h0_ h1_ h2_ h3_ h4_ h5_ h6_ h7_ h8_ h9_ h10_ h11_; have hHeld : w27.cell? ⟨gb252, 0, none⟩ = some (.int .i64 a0_0) ∧ w27.cell? ⟨gb252, 1, none⟩ = some (.int .i64 a0_1) ∧ w27.cell? ⟨gb252, 2, none⟩ = some (.string a0_2) ∧ w27.cell? ⟨gb252, 3, none⟩ = some (.slice A0_3 l0_3.length c0_3) ∧ w27.cell? ⟨gb253, 0, none⟩ = some (.int .i64 a1_0) ∧ w27.cell? ⟨gb253, 1, none⟩ = some (.int .i64 a1_1) ∧ w27.cell? ⟨gb253, 2, none⟩ = some (.string a1_2) ∧ w27.cell? ⟨gb253, 3, none⟩ = some (.slice A1_3 l1_3.length c1_3) := hS_; refine norm_ (a' := ?_) ?_ ?_; rotate_left
   ·simp only [putAll, Act.put, List.setIfInBounds_toArray, List.set_cons_zero, List.set_cons_succ]; rfl
   refine one_ (i := 5) (N := some 6) #[true, true, true, true, true, true, false, false] rfl rfl (one_of HT_.out (by kernel_rfl)) (by decide) (fun K hK => ?_); refine box_step ?hg (N := 6) ?hd (cs := #[.int .i64 0, .int .i64 0, .string (⟨#[]⟩ : ByteArray), .slice none 0 0]) (t := 26) ?hr ?_; (case hd => rfl); (case hg => rfl); (case hr => first | (go_simp; done) | (go_simp; rfl)); intro gb267 hg w28 hbox hb; replace HO259 := Aside0.mk (Kd.R_below (Kd.R_elderB (zR HO259) gb267 (Nat.le_of_eq hg.symm)) hb); replace HO265 := Aside0.mk (Kd.R_below (Kd.R_elderB (zR HO265) gb267 (Nat.le_of_eq hg.symm)) hb); have BK267 := Aside0.mk (hbox)
   have GW267 := (zq hg : Aside0 (w.heap.size ≤ gb267))
   have GE267 := (zq hg : Aside0 (w.heap.size ≤ gb267))
   replace HB := (zB hb)
   have NB252_267 := (zl hg BK252 : Aside0 (gb252 ≠ gb267))
   have NB267_252 := (zl' hg BK252 : Aside0 (gb267 ≠ gb252))
   replace BK252 := (zK BK252 hb)
   have NB253_267 := (zl hg BK253 : Aside0 (gb253 ≠ gb267))
   have NB267_253 := (zl' hg BK253 : Aside0 (gb267 ≠ gb253))
   replace BK253 := (zK BK253 hb)
   have NB266_267 := (zl hg BK266 : Aside0 (gb266 ≠ gb267))
   have NB267_266 := (zl' hg BK266 : Aside0 (gb267 ≠ gb266))
   replace BK266 := (zK BK266 hb)
   clear hb hbox hg; refine hK.out _ _ ⟨(blk_cell BK252.out 0).trans rfl, (blk_cell BK252.out 1).trans rfl, (blk_cell BK252.out 2).trans rfl, (blk_cell BK252.out 3).trans rfl, (blk_cell BK253.out 0).trans rfl, (blk_cell BK253.out 1).trans rfl, (blk_cell BK253.out 2).trans rfl, (blk_cell BK253.out 3).trans rfl⟩ (fun hHeld => ?_); clear hK K; refine norm_ (a' := ?_) ?_ ?_; rotate_left
   ·show Act.put _ (some 6) _ = _
    simp only [Act.put, List.setIfInBounds_toArray, List.set_cons_zero, List.set_cons_succ, i64_w, i32_w]; rfl
   exact zN (hJ1_3_4_5 (v258, v264, gb266, gb267) _ ⟨hHeld, (zRm HO259 (fun _ hk => ⟨hk.1.1, ⟨hk.1.2.1, ⟨hk.1.2.2.1, ⟨hk.1.2.2.2, hk.2⟩⟩⟩⟩)), (zRm HO265 (fun _ hk => ⟨hk.1.1, ⟨hk.1.2.1, ⟨hk.1.2.2.1, ⟨hk.1.2.2.2, hk.2⟩⟩⟩⟩)), (Cl.blk BK252.out), (Cl.blk BK253.out), (Cl.blk BK266.out), (Cl.blk BK267.out), GW266.out, GE266.out, NB252_266.out, NB266_252.out, NB253_266.out, NB266_253.out, NB267_266.out, NB266_267.out, GW267.out, GE267.out, NB252_267.out, NB267_252.out, NB253_267.out, NB267_253.out, zb⟩)
 rintro ⟨v258, v264, gb266, gb267⟩ w28 ⟨hS_, h0_, h1_, h2_, h3_, h4_, h5_, h6_, h7_, h8_, h9_, h10_, h11_, h12_, h13_, h14_, h15_, h16_, h17_, h18_, h19_, h20_⟩
 have HO259 := (⟨h0_⟩ : Aside0 (Kd.R k26 26 w28 w.heap.size (fun k_ => some k_ ≠ (v264 : Value).ownBlock ∧ k_ ≠ gb252 ∧ k_ ≠ gb253 ∧ k_ ≠ gb266 ∧ k_ ≠ gb267) v258 t257))
 have HO265 := (⟨h1_⟩ : Aside0 (Kd.R k26 26 w28 w.heap.size (fun k_ => some k_ ≠ (v258 : Value).ownBlock ∧ k_ ≠ gb252 ∧ k_ ≠ gb253 ∧ k_ ≠ gb266 ∧ k_ ≠ gb267) v264 t263))
 replace BK252 := (⟨h2_⟩ : Aside0 (w28.heap[gb252]? = some (.cells #[.int .i64 a0_0, .int .i64 a0_1, .string a0_2, .slice A0_3 l0_3.length c0_3] 26 (0, 0))))
 replace BK253 := (⟨h3_⟩ : Aside0 (w28.heap[gb253]? = some (.cells #[.int .i64 a1_0, .int .i64 a1_1, .string a1_2, .slice A1_3 l1_3.length c1_3] 26 (0, 0))))
 have BK266 := (⟨h4_⟩ : Aside0 (w28.heap[gb266]? = some (.cells #[.int .i64 0, .int .i64 0, .string (⟨#[]⟩ : ByteArray), .slice none 0 0] 26 (0, 0))))
 have BK267 := (⟨h5_⟩ : Aside0 (w28.heap[gb267]? = some (.cells #[.int .i64 0, .int .i64 0, .string (⟨#[]⟩ : ByteArray), .slice none 0 0] 26 (0, 0))))
 have GW266 := (⟨h6_⟩ : Aside0 (w.heap.size ≤ gb266))
 have GE266 := (⟨h7_⟩ : Aside0 (w.heap.size ≤ gb266))
 have NB252_266 := (⟨h8_⟩ : Aside0 (gb252 ≠ gb266))
 have NB266_252 := (⟨h9_⟩ : Aside0 (gb266 ≠ gb252))
 have NB253_266 := (⟨h10_⟩ : Aside0 (gb253 ≠ gb266))
 have NB266_253 := (⟨h11_⟩ : Aside0 (gb266 ≠ gb253))
 have NB267_266 := (⟨h12_⟩ : Aside0 (gb267 ≠ gb266))
 have NB266_267 := (⟨h13_⟩ : Aside0 (gb266 ≠ gb267))
 have GW267 := (⟨h14_⟩ : Aside0 (w.heap.size ≤ gb267))
 have GE267 := (⟨h15_⟩ : Aside0 (w.heap.size ≤ gb267))
 have NB252_267 := (⟨h16_⟩ : Aside0 (gb252 ≠ gb267))
 have NB267_252 := (⟨h17_⟩ : Aside0 (gb267 ≠ gb252))
 have NB253_267 := (⟨h18_⟩ : Aside0 (gb253 ≠ gb267))
 have NB267_253 := (⟨h19_⟩ : Aside0 (gb267 ≠ gb253))
 replace HB := (⟨h20_⟩ : Aside0 (Below w.heap.size w w28))
 clear h0_ h1_ h2_ h3_ h4_ h5_ h6_ h7_ h8_ h9_ h10_ h11_ h12_ h13_ h14_ h15_ h16_ h17_ h18_ h19_ h20_; have hHeld : w28.cell? ⟨gb252, 0, none⟩ = some (.int .i64 a0_0) ∧ w28.cell? ⟨gb252, 1, none⟩ = some (.int .i64 a0_1) ∧ w28.cell? ⟨gb252, 2, none⟩ = some (.string a0_2) ∧ w28.cell? ⟨gb252, 3, none⟩ = some (.slice A0_3 l0_3.length c0_3) ∧ w28.cell? ⟨gb253, 0, none⟩ = some (.int .i64 a1_0) ∧ w28.cell? ⟨gb253, 1, none⟩ = some (.int .i64 a1_1) ∧ w28.cell? ⟨gb253, 2, none⟩ = some (.string a1_2) ∧ w28.cell? ⟨gb253, 3, none⟩ = some (.slice A1_3 l1_3.length c1_3) := hS_; obtain ⟨Ao32, co32, eo32⟩ := Kd.R_slice HO259.out
 (first | subst eo32 | (injection eo32 with f1_ f2_ f3_; have f4_ := f1_.symm; have f5_ := f3_.symm; clear f1_ f2_ f3_; subst f4_; subst f5_))
 obtain ⟨Ao37, co37, eo37⟩ := Kd.R_slice HO265.out
 (first | subst eo37 | (injection eo37 with f1_ f2_ f3_; have f4_ := f1_.symm; have f5_ := f3_.symm; clear f1_ f2_ f3_; subst f4_; subst f5_))
 refine norm_ (a' := ?_) ?_ ?_; rotate_left
 ·simp only [putAll, Act.put, List.setIfInBounds_toArray, List.set_cons_zero, List.set_cons_succ]; rfl
 refine one_ (i := 6) (N := none) #[true, true, true, true, true, true, true, false] rfl rfl (one_of HT_.out (by kernel_rfl)) (by decide) (fun K hK => ?_); have hs29 : w28.cell? ⟨gb266, 0, none⟩ = some (.int .i64 0) := (blk_cell BK266.out 0).trans rfl; have hfs29 := blk_frozen BK266.out 0; have hns29_0 := NB252_266.out; have hns29_1 := NB253_266.out; have hns29_3 := NB267_266.out; have hms29_0 := NB266_252.out; have hms29_1 := NB266_253.out; have hms29_3 := NB266_267.out; have hs30 : w28.cell? ⟨gb266, 1, none⟩ = some (.int .i64 0) := (blk_cell BK266.out 1).trans rfl; have hfs30 := blk_frozen BK266.out 1; have hns30_0 := NB252_266.out; have hns30_1 := NB253_266.out; have hns30_3 := NB267_266.out; have hms30_0 := NB266_252.out; have hms30_1 := NB266_253.out; have hms30_3 := NB266_267.out; have hs31 : w28.cell? ⟨gb266, 2, none⟩ = some (.string (⟨#[]⟩ : ByteArray)) := (blk_cell BK266.out 2).trans rfl; have hfs31 := blk_frozen BK266.out 2; have hns31_0 := NB252_266.out; have hns31_1 := NB253_266.out; have hns31_3 := NB267_266.out; have hms31_0 := NB266_252.out; have hms31_1 := NB266_253.out; have hms31_3 := NB266_267.out; have hs33 : w28.cell? ⟨gb266, 3, none⟩ = some (.slice none 0 0) := (blk_cell BK266.out 3).trans rfl; have hfs33 := blk_frozen BK266.out 3; have hns33_0 := NB252_266.out; have hns33_1 := NB253_266.out; have hns33_3 := NB267_266.out; have hms33_0 := NB266_252.out; have hms33_1 := NB266_253.out; have hms33_3 := NB266_267.out; refine skip_ (w1 := ?_) (by rfl) rfl ?_ ?_; rotate_left
 ·go_simp; rfl
 refine hK.out _ _ ⟨((cell_far (p := ⟨gb266, _, none⟩) NB252_266.out _).trans (((cell_far (p := ⟨gb266, _, none⟩) NB252_266.out _).trans (((cell_far (p := ⟨gb266, _, none⟩) NB252_266.out _).trans (((cell_far (p := ⟨gb266, _, none⟩) NB252_266.out _).trans (hHeld.1)))))))), ((cell_far (p := ⟨gb266, _, none⟩) NB252_266.out _).trans (((cell_far (p := ⟨gb266, _, none⟩) NB252_266.out _).trans (((cell_far (p := ⟨gb266, _, none⟩) NB252_266.out _).trans (((cell_far (p := ⟨gb266, _, none⟩) NB252_266.out _).trans (hHeld.2.1)))))))), ((cell_far (p := ⟨gb266, _, none⟩) NB252_266.out _).trans (((cell_far (p := ⟨gb266, _, none⟩) NB252_266.out _).trans (((cell_far (p := ⟨gb266, _, none⟩) NB252_266.out _).trans (((cell_far (p := ⟨gb266, _, none⟩) NB252_266.out _).trans (hHeld.2.2.1)))))))), ((cell_far (p := ⟨gb266, _, none⟩) NB252_266.out _).trans (((cell_far (p := ⟨gb266, _, none⟩) NB252_266.out _).trans (((cell_far (p := ⟨gb266, _, none⟩) NB252_266.out _).trans (((cell_far (p := ⟨gb266, _, none⟩) NB252_266.out _).trans (hHeld.2.2.2.1)))))))), ((cell_far (p := ⟨gb266, _, none⟩) NB253_266.out _).trans (((cell_far (p := ⟨gb266, _, none⟩) NB253_266.out _).trans (((cell_far (p := ⟨gb266, _, none⟩) NB253_266.out _).trans (((cell_far (p := ⟨gb266, _, none⟩) NB253_266.out _).trans (hHeld.2.2.2.2.1)))))))), ((cell_far (p := ⟨gb266, _, none⟩) NB253_266.out _).trans (((cell_far (p := ⟨gb266, _, none⟩) NB253_266.out _).trans (((cell_far (p := ⟨gb266, _, none⟩) NB253_266.out _).trans (((cell_far (p := ⟨gb266, _, none⟩) NB253_266.out _).trans (hHeld.2.2.2.2.2.1)))))))), ((cell_far (p := ⟨gb266, _, none⟩) NB253_266.out _).trans (((cell_far (p := ⟨gb266, _, none⟩) NB253_266.out _).trans (((cell_far (p := ⟨gb266, _, none⟩) NB253_266.out _).trans (((cell_far (p := ⟨gb266, _, none⟩) NB253_266.out _).trans (hHeld.2.2.2.2.2.2.1)))))))), ((cell_far (p := ⟨gb266, _, none⟩) NB253_266.out _).trans (((cell_far (p := ⟨gb266, _, none⟩) NB253_266.out _).trans (((cell_far (p := ⟨gb266, _, none⟩) NB253_266.out _).trans (((cell_far (p := ⟨gb266, _, none⟩) NB253_266.out _).trans (hHeld.2.2.2.2.2.2.2))))))))⟩ (fun hHeld => ?_); clear hK K; refine one_ (i := 7) (N := none) #[true, true, true, true, true, true, true, true] rfl rfl (one_of HT_.out (by kernel_rfl)) (by decide) (fun K hK => ?_); have hs34 : w28.cell? ⟨gb267, 0, none⟩ = some (.int .i64 0) := (blk_cell BK267.out 0).trans rfl; have hfs34 := blk_frozen BK267.out 0; have hns34_0 := NB252_267.out; have hns34_1 := NB253_267.out; have hns34_2 := NB266_267.out; have hms34_0 := NB267_252.out; have hms34_1 := NB267_253.out; have hms34_2 := NB267_266.out; have hs35 : w28.cell? ⟨gb267, 1, none⟩ = some (.int .i64 0) := (blk_cell BK267.out 1).trans rfl; have hfs35 := blk_frozen BK267.out 1; have hns35_0 := NB252_267.out; have hns35_1 := NB253_267.out; have hns35_2 := NB266_267.out; have hms35_0 := NB267_252.out; have hms35_1 := NB267_253.out; have hms35_2 := NB267_266.out; have hs36 : w28.cell? ⟨gb267, 2, none⟩ = some (.string (⟨#[]⟩ : ByteArray)) := (blk_cell BK267.out 2).trans rfl; have hfs36 := blk_frozen BK267.out 2; have hns36_0 := NB252_267.out; have hns36_1 := NB253_267.out; have hns36_2 := NB266_267.out; have hms36_0 := NB267_252.out; have hms36_1 := NB267_253.out; have hms36_2 := NB267_266.out; have hs38 : w28.cell? ⟨gb267, 3, none⟩ = some (.slice none 0 0) := (blk_cell BK267.out 3).trans rfl; have hfs38 := blk_frozen BK267.out 3; have hns38_0 := NB252_267.out; have hns38_1 := NB253_267.out; have hns38_2 := NB266_267.out; have hms38_0 := NB267_252.out; have hms38_1 := NB267_253.out; have hms38_2 := NB267_266.out; refine skip_ (w1 := ?_) (by rfl) rfl ?_ ?_; rotate_left
 ·go_simp; rfl
 refine hK.out _ _ ⟨((cell_far (p := ⟨gb267, _, none⟩) NB252_267.out _).trans (((cell_far (p := ⟨gb267, _, none⟩) NB252_267.out _).trans (((cell_far (p := ⟨gb267, _, none⟩) NB252_267.out _).trans (((cell_far (p := ⟨gb267, _, none⟩) NB252_267.out _).trans (hHeld.1)))))))), ((cell_far (p := ⟨gb267, _, none⟩) NB252_267.out _).trans (((cell_far (p := ⟨gb267, _, none⟩) NB252_267.out _).trans (((cell_far (p := ⟨gb267, _, none⟩) NB252_267.out _).trans (((cell_far (p := ⟨gb267, _, none⟩) NB252_267.out _).trans (hHeld.2.1)))))))), ((cell_far (p := ⟨gb267, _, none⟩) NB252_267.out _).trans (((cell_far (p := ⟨gb267, _, none⟩) NB252_267.out _).trans (((cell_far (p := ⟨gb267, _, none⟩) NB252_267.out _).trans (((cell_far (p := ⟨gb267, _, none⟩) NB252_267.out _).trans (hHeld.2.2.1)))))))), ((cell_far (p := ⟨gb267, _, none⟩) NB252_267.out _).trans (((cell_far (p := ⟨gb267, _, none⟩) NB252_267.out _).trans (((cell_far (p := ⟨gb267, _, none⟩) NB252_267.out _).trans (((cell_far (p := ⟨gb267, _, none⟩) NB252_267.out _).trans (hHeld.2.2.2.1)))))))), ((cell_far (p := ⟨gb267, _, none⟩) NB253_267.out _).trans (((cell_far (p := ⟨gb267, _, none⟩) NB253_267.out _).trans (((cell_far (p := ⟨gb267, _, none⟩) NB253_267.out _).trans (((cell_far (p := ⟨gb267, _, none⟩) NB253_267.out _).trans (hHeld.2.2.2.2.1)))))))), ((cell_far (p := ⟨gb267, _, none⟩) NB253_267.out _).trans (((cell_far (p := ⟨gb267, _, none⟩) NB253_267.out _).trans (((cell_far (p := ⟨gb267, _, none⟩) NB253_267.out _).trans (((cell_far (p := ⟨gb267, _, none⟩) NB253_267.out _).trans (hHeld.2.2.2.2.2.1)))))))), ((cell_far (p := ⟨gb267, _, none⟩) NB253_267.out _).trans (((cell_far (p := ⟨gb267, _, none⟩) NB253_267.out _).trans (((cell_far (p := ⟨gb267, _, none⟩) NB253_267.out _).trans (((cell_far (p := ⟨gb267, _, none⟩) NB253_267.out _).trans (hHeld.2.2.2.2.2.2.1)))))))), ((cell_far (p := ⟨gb267, _, none⟩) NB253_267.out _).trans (((cell_far (p := ⟨gb267, _, none⟩) NB253_267.out _).trans (((cell_far (p := ⟨gb267, _, none⟩) NB253_267.out _).trans (((cell_far (p := ⟨gb267, _, none⟩) NB253_267.out _).trans (hHeld.2.2.2.2.2.2.2))))))))⟩ (fun hHeld => ?_); clear hK K; refine done_ (done_of HT_.out (by kernel_rfl)) ?_; have H := HH_.out; clear HH_; by_cases c12 : t276 = true
 ·subst c12; rw [if_pos rfl] at H; replace H := zo H; obtain ⟨t277, A13, H⟩ := H; have HH_ := Aside0.mk H; clear H; have H := HH_.out; clear HH_; by_cases c14 : t277 = true
  ·subst c14; rw [if_pos rfl] at H; replace H := Option.bind_eq_some_iff.mp H; obtain ⟨⟨t278, t281⟩, A150, H⟩ := H; replace H : ((marginaliaref05_Ints.f k t268 t278).bind fun t282 => (if t282 = true then (if (t271 == t281) = true then (if t272 = 0 then ((marginalialaw05_alive.f).bind fun t283 => (some t283)) else (none)) else (none)) else (none))) = some r := H; have A15 := Aside0.mk A150; clear A150; replace H := zo H; obtain ⟨t282, A16, H⟩ := H; replace H := zi H; obtain ⟨c17, H⟩ := H; subst c17; replace H := zi H; obtain ⟨c18, H⟩ := H; have c18b0 : (t271 == t281) = true := c18
   (try (have c18b1 : decide (t271 = t281) = true := by simpa using c18))
   (try (have c18b2 : (t271 == t281) = true := by simpa using c18))
   clear c18; replace H := zi3 H; obtain ⟨c19b0, c19b1, H⟩ := H; replace H := zo H; obtain ⟨t283, A20, H⟩ := H; obtain rfl := Option.some.inj H; have hnb39 := NB266_252.out; have hnc39 := NB252_266.out; have hnb40 := NB266_253.out; have hnc40 := NB253_266.out; have hnb41 := NB266_267.out; have hnc41 := NB267_266.out; obtain ⟨hcz42_0, hcz42_1, hcz42_2, hcz42_3⟩ := zc4 BK266; obtain ⟨hfz42_0, hfz42_1, hfz42_2, hfz42_3⟩ := zz4 BK266; have hnb43 := NB267_252.out; have hnc43 := NB252_267.out; have hnb44 := NB267_253.out; have hnc44 := NB253_267.out; obtain ⟨hcz45_0, hcz45_1, hcz45_2, hcz45_3⟩ := zc4 BK267; obtain ⟨hfz45_0, hfz45_1, hfz45_2, hfz45_3⟩ := zz4 BK267
   try go_wp2_with (first | ((with_reducible refine zG 35 rfl ?_); refine zg 19 Try.func35 ((tree_Changed.calls k t254 t255 t256 _ _ t257 t260 t261 t262 _ _ t263 t268 t271 t272 _ ?side1 ?side2 ?side3 ?side4 A5.out).mono ?_); (case side1 => refine (Kd.R_reads' (e := 26) (base := w.heap.size) (ok := fun k_ => (some k_ ≠ (.slice Ao37 t263.length co37 : Value).ownBlock ∧ (k_ ≠ gb252 ∧ (k_ ≠ gb253 ∧ (k_ ≠ gb266 ∧ k_ ≠ gb267))))) (n := t257.length) (c := co32) ?_).2.2; exact (by (with_reducible repeat (first | apply Kd.R_alloc | apply Kd.R_drewN | apply Kd.R_drew)); exact (Kd.R_mono (Kd.R_mono (Kd.R_far (p := ⟨gb267, 3, none⟩) (Kd.R_far (p := ⟨gb267, 2, none⟩) (Kd.R_far (p := ⟨gb267, 1, none⟩) (Kd.R_far (p := ⟨gb267, 0, none⟩) (Kd.R_far (p := ⟨gb266, 3, none⟩) (Kd.R_far (p := ⟨gb266, 2, none⟩) (Kd.R_far (p := ⟨gb266, 1, none⟩) (Kd.R_far (p := ⟨gb266, 0, none⟩) (Kd.R_mono (Kd.R_mono HO259.out (fun k_ hk => (⟨hk, hk.2.2.2.1⟩ : _ ∧ k_ ≠ gb266))) (fun k_ hk => (⟨hk, hk.1.2.2.2.2⟩ : _ ∧ k_ ≠ gb267))) (fun _ hk => hk.1.2) (.int .i64 t254)) (fun _ hk => hk.1.2) (.int .i64 t255)) (fun _ hk => hk.1.2) (.string t256)) (fun _ hk => hk.1.2) (.slice Ao32 t257.length co32)) (fun _ hk => hk.2) (.int .i64 t260)) (fun _ hk => hk.2) (.int .i64 t261)) (fun _ hk => hk.2) (.string t262)) (fun _ hk => hk.2) (.slice Ao37 t263.length co37)) (fun _ h_ => h_.1)) (fun _ h_ => h_.1)))); (case side2 => exact (Kd.R_reads' HO259.out).2.1); (case side3 => refine (Kd.R_reads' (e := 26) (base := w.heap.size) (ok := fun k_ => (some k_ ≠ (.slice Ao32 t257.length co32 : Value).ownBlock ∧ (k_ ≠ gb252 ∧ (k_ ≠ gb253 ∧ (k_ ≠ gb266 ∧ k_ ≠ gb267))))) (n := t263.length) (c := co37) ?_).2.2; exact (by (with_reducible repeat (first | apply Kd.R_alloc | apply Kd.R_drewN | apply Kd.R_drew)); exact (Kd.R_mono (Kd.R_mono (Kd.R_far (p := ⟨gb267, 3, none⟩) (Kd.R_far (p := ⟨gb267, 2, none⟩) (Kd.R_far (p := ⟨gb267, 1, none⟩) (Kd.R_far (p := ⟨gb267, 0, none⟩) (Kd.R_far (p := ⟨gb266, 3, none⟩) (Kd.R_far (p := ⟨gb266, 2, none⟩) (Kd.R_far (p := ⟨gb266, 1, none⟩) (Kd.R_far (p := ⟨gb266, 0, none⟩) (Kd.R_mono (Kd.R_mono HO265.out (fun k_ hk => (⟨hk, hk.2.2.2.1⟩ : _ ∧ k_ ≠ gb266))) (fun k_ hk => (⟨hk, hk.1.2.2.2.2⟩ : _ ∧ k_ ≠ gb267))) (fun _ hk => hk.1.2) (.int .i64 t254)) (fun _ hk => hk.1.2) (.int .i64 t255)) (fun _ hk => hk.1.2) (.string t256)) (fun _ hk => hk.1.2) (.slice Ao32 t257.length co32)) (fun _ hk => hk.2) (.int .i64 t260)) (fun _ hk => hk.2) (.int .i64 t261)) (fun _ hk => hk.2) (.string t262)) (fun _ hk => hk.2) (.slice Ao37 t263.length co37)) (fun _ h_ => h_.1)) (fun _ h_ => h_.1)))); (case side4 => exact (Kd.R_reads' HO265.out).2.1); rintro e w46 ⟨v269, rfl, ho0, hb⟩; refine ⟨_, rfl, ?_⟩; replace HO259 := Aside0.mk (Kd.R_below (by (with_reducible repeat (first | apply Kd.R_alloc | apply Kd.R_drewN | apply Kd.R_drew)); exact (Kd.R_mono (Kd.R_mono (Kd.R_far (p := ⟨gb267, 3, none⟩) (Kd.R_far (p := ⟨gb267, 2, none⟩) (Kd.R_far (p := ⟨gb267, 1, none⟩) (Kd.R_far (p := ⟨gb267, 0, none⟩) (Kd.R_far (p := ⟨gb266, 3, none⟩) (Kd.R_far (p := ⟨gb266, 2, none⟩) (Kd.R_far (p := ⟨gb266, 1, none⟩) (Kd.R_far (p := ⟨gb266, 0, none⟩) (Kd.R_mono (Kd.R_mono HO259.out (fun k_ hk => (⟨hk, hk.2.2.2.1⟩ : _ ∧ k_ ≠ gb266))) (fun k_ hk => (⟨hk, hk.1.2.2.2.2⟩ : _ ∧ k_ ≠ gb267))) (fun _ hk => hk.1.2) (.int .i64 t254)) (fun _ hk => hk.1.2) (.int .i64 t255)) (fun _ hk => hk.1.2) (.string t256)) (fun _ hk => hk.1.2) (.slice Ao32 t257.length co32)) (fun _ hk => hk.2) (.int .i64 t260)) (fun _ hk => hk.2) (.int .i64 t261)) (fun _ hk => hk.2) (.string t262)) (fun _ hk => hk.2) (.slice Ao37 t263.length co37)) (fun _ h_ => h_.1)) (fun _ h_ => h_.1))) hb); replace HO265 := Aside0.mk (Kd.R_below (by (with_reducible repeat (first | apply Kd.R_alloc | apply Kd.R_drewN | apply Kd.R_drew)); exact (Kd.R_mono (Kd.R_mono (Kd.R_far (p := ⟨gb267, 3, none⟩) (Kd.R_far (p := ⟨gb267, 2, none⟩) (Kd.R_far (p := ⟨gb267, 1, none⟩) (Kd.R_far (p := ⟨gb267, 0, none⟩) (Kd.R_far (p := ⟨gb266, 3, none⟩) (Kd.R_far (p := ⟨gb266, 2, none⟩) (Kd.R_far (p := ⟨gb266, 1, none⟩) (Kd.R_far (p := ⟨gb266, 0, none⟩) (Kd.R_mono (Kd.R_mono HO265.out (fun k_ hk => (⟨hk, hk.2.2.2.1⟩ : _ ∧ k_ ≠ gb266))) (fun k_ hk => (⟨hk, hk.1.2.2.2.2⟩ : _ ∧ k_ ≠ gb267))) (fun _ hk => hk.1.2) (.int .i64 t254)) (fun _ hk => hk.1.2) (.int .i64 t255)) (fun _ hk => hk.1.2) (.string t256)) (fun _ hk => hk.1.2) (.slice Ao32 t257.length co32)) (fun _ hk => hk.2) (.int .i64 t260)) (fun _ hk => hk.2) (.int .i64 t261)) (fun _ hk => hk.2) (.string t262)) (fun _ hk => hk.2) (.slice Ao37 t263.length co37)) (fun _ h_ => h_.1)) (fun _ h_ => h_.1))) hb); have HO270 := Aside0.mk (Kd.R_lower ho0 (below_size zb)); replace BK252 := (zw2 gb252 #[.int .i64 a0_0, .int .i64 a0_1, .string a0_2, .slice A0_3 l0_3.length c0_3] 26 hb); replace BK253 := (zw2 gb253 #[.int .i64 a1_0, .int .i64 a1_1, .string a1_2, .slice A1_3 l1_3.length c1_3] 26 hb); replace BK266 := (zw2 gb266 #[.int .i64 t254, .int .i64 t255, .string t256, .slice Ao32 t257.length co32] 26 hb); replace BK267 := (zw2 gb267 #[.int .i64 t260, .int .i64 t261, .string t262, .slice Ao37 t263.length co37] 26 hb); replace HB := (zB hb); (try clear hb); (try clear hb2); (try clear hk); (try clear hi); (try clear ho0)))
   replace HO259 := Aside0.mk (Kd.R_drew HO259.out); replace HO265 := Aside0.mk (Kd.R_drew HO265.out); replace HO270 := Aside0.mk (Kd.R_drew HO270.out); replace BK252 := Aside0.mk (blk_drew BK252.out); replace BK253 := Aside0.mk (blk_drew BK253.out); replace BK266 := Aside0.mk (blk_drew BK266.out); replace BK267 := Aside0.mk (blk_drew BK267.out); replace HB := Aside0.mk (below_drew1 HB.out); refine start_ (n := 13) (S := fun w' => w'.cell? ⟨gb266, 0, none⟩ = some (.int .i64 t254) ∧ w'.cell? ⟨gb266, 1, none⟩ = some (.int .i64 t255) ∧ w'.cell? ⟨gb266, 2, none⟩ = some (.string t256) ∧ w'.cell? ⟨gb266, 3, none⟩ = some (.slice Ao32 t257.length co32) ∧ w'.cell? ⟨gb267, 0, none⟩ = some (.int .i64 t260) ∧ w'.cell? ⟨gb267, 1, none⟩ = some (.int .i64 t261) ∧ w'.cell? ⟨gb267, 2, none⟩ = some (.string t262) ∧ w'.cell? ⟨gb267, 3, none⟩ = some (.slice Ao37 t263.length co37)) (ds := []) #[false, false, false, false, false, false, false, false, false, false, false, false, false] (by kernel_rfl) rfl rfl ⟨(blk_cell BK266.out 0).trans rfl, (blk_cell BK266.out 1).trans rfl, (blk_cell BK266.out 2).trans rfl, (blk_cell BK266.out 3).trans rfl, (blk_cell BK267.out 0).trans rfl, (blk_cell BK267.out 1).trans rfl, (blk_cell BK267.out 2).trans rfl, (blk_cell BK267.out 3).trans rfl⟩ (fun hHeld => ?_); refine with_tabW marginalialaw05_TreeSame.tab3 marginalialaw05_TreeSame.bits3 (fun HT_ HW_ => ?_); generalize w46.drew = w47 at HO259 HO265 HO270 BK252 BK253 BK266 BK267 HB hHeld ⊢; refine zy 0 23 HT_ HW_ hHeld ?_; refine zy 1 24 HT_ HW_ hHeld ?_; refine zy 3 26 HT_ HW_ hHeld ?_; refine zy 4 27 HT_ HW_ hHeld ?_; refine one_ (i := 2) (N := some 25) #[true, true, true, true, true, false, false, false, false, false, false, false, false] rfl rfl (one_of HT_.out (by kernel_rfl)) (by decide) (fun K hK => ?_); refine goes_ Try.func36 (by kernel_rfl) rfl #[.agg #[.int .i64 t254, .int .i64 t255, .string t256, .slice Ao32 t257.length co32], .agg #[.int .i64 t260, .int .i64 t261, .string t262, .slice Ao37 t263.length co37]] (by rfl) rfl rfl (by (try simp only [List.map_toArray, List.map_cons, List.map_nil]); first | done | rfl | (simp only [List.length_drop, List.length_take]; rfl)) ?_
   with_reducible refine (tree_Same.calls k t254 t255 t256 _ _ t257 t260 t261 t262 _ _ t263 t273 _ ?side1 ?side2 ?side3 ?side4 A6.out).mono ?_
   (case side1 => exact zE' (Kd.R_reads' HO259.out).2.2)
   (case side2 => exact (Kd.R_reads' HO259.out).2.1)
   (case side3 => exact zE' (Kd.R_reads' HO265.out).2.2)
   (case side4 => exact (Kd.R_reads' HO265.out).2.1)
   rintro e w48 ⟨rfl, hb⟩; refine ⟨_, rfl, ?_⟩
   replace HO259 := (zRb HO259 hb)
   replace HO265 := (zRb HO265 hb)
   replace HO270 := (zRb HO270 hb)
   replace BK252 := (zK BK252 hb)
   replace BK253 := (zK BK253 hb)
   replace BK266 := (zK BK266 hb)
   replace BK267 := (zK BK267 hb)
   replace HB := (zB hb)
   (try clear hb)
   (try clear hb2)
   (try clear hk)
   (try clear hi)
   refine hK.out _ _ ⟨(blk_cell BK266.out 0).trans rfl, (blk_cell BK266.out 1).trans rfl, (blk_cell BK266.out 2).trans rfl, (blk_cell BK266.out 3).trans rfl, (blk_cell BK267.out 0).trans rfl, (blk_cell BK267.out 1).trans rfl, (blk_cell BK267.out 2).trans rfl, (blk_cell BK267.out 3).trans rfl⟩ (fun hHeld => ?_); clear hK K; refine norm_ (a' := ?_) ?_ ?_; rotate_left
   ·show Act.put _ (some 25) _ = _
    simp only [Act.put, List.setIfInBounds_toArray, List.set_cons_zero, List.set_cons_succ, i64_w, i32_w]; rfl
   refine one_ (i := 5) (N := some 28) #[true, true, true, true, true, true, false, false, false, false, false, false, false] rfl rfl (one_of HT_.out (by kernel_rfl)) (by decide) (fun K hK => ?_); refine goes_ Try.func37 (by kernel_rfl) rfl #[.agg #[.int .i64 t254, .int .i64 t255, .string t256, .slice Ao32 t257.length co32], .agg #[.int .i64 t260, .int .i64 t261, .string t262, .slice Ao37 t263.length co37]] (by rfl) rfl rfl (by (try simp only [List.map_toArray, List.map_cons, List.map_nil]); first | done | rfl | (simp only [List.length_drop, List.length_take]; rfl)) ?_
   with_reducible refine (marginaliaref05_Same.calls k t254 t255 t256 _ _ t257 t260 t261 t262 _ _ t263 t274 _ ?side1 ?side2 ?side3 ?side4 A7.out).mono ?_
   (case side1 => exact zE' (Kd.R_reads' HO259.out).2.2)
   (case side2 => exact (Kd.R_reads' HO259.out).2.1)
   (case side3 => exact zE' (Kd.R_reads' HO265.out).2.2)
   (case side4 => exact (Kd.R_reads' HO265.out).2.1)
   rintro e w49 ⟨rfl, hb⟩; refine ⟨_, rfl, ?_⟩
   replace HO259 := (zRb HO259 hb)
   replace HO265 := (zRb HO265 hb)
   replace HO270 := (zRb HO270 hb)
   replace BK252 := (zK BK252 hb)
   replace BK253 := (zK BK253 hb)
   replace BK266 := (zK BK266 hb)
   replace BK267 := (zK BK267 hb)
   replace HB := (zB hb)
   (try clear hb)
   (try clear hb2)
   (try clear hk)
   (try clear hi)
   refine hK.out _ _ ⟨(blk_cell BK266.out 0).trans rfl, (blk_cell BK266.out 1).trans rfl, (blk_cell BK266.out 2).trans rfl, (blk_cell BK266.out 3).trans rfl, (blk_cell BK267.out 0).trans rfl, (blk_cell BK267.out 1).trans rfl, (blk_cell BK267.out 2).trans rfl, (blk_cell BK267.out 3).trans rfl⟩ (fun hHeld => ?_); clear hK K; refine norm_ (a' := ?_) ?_ ?_; rotate_left
   ·show Act.put _ (some 28) _ = _
    simp only [Act.put, List.setIfInBounds_toArray, List.set_cons_zero, List.set_cons_succ, i64_w, i32_w]; rfl
   refine zp 6 29 HT_ ?_; refine zp 7 30 HT_ ?_; refine zy 8 31 HT_ HW_ hHeld ?_; refine zy 9 32 HT_ HW_ hHeld ?_; refine one_ (i := 10) (N := some 33) #[true, true, true, true, true, true, true, true, true, true, true, false, false] rfl rfl (one_of HT_.out (by kernel_rfl)) (by decide) (fun K hK => ?_); refine goes_ Try.func36 (by kernel_rfl) rfl #[.agg #[.int .i64 t254, .int .i64 t255, .string t256, .slice Ao32 t257.length co32], .agg #[.int .i64 t254, .int .i64 t255, .string t256, .slice Ao32 t257.length co32]] (by rfl) rfl rfl (by (try simp only [List.map_toArray, List.map_cons, List.map_nil]); first | done | rfl | (simp only [List.length_drop, List.length_take]; rfl)) ?_
   with_reducible refine (tree_Same.calls k t254 t255 t256 _ _ t257 t254 t255 t256 _ _ t257 true _ ?side1 ?side2 ?side3 ?side4 A9.out).mono ?_
   (case side1 => exact zE' (Kd.R_reads' HO259.out).2.2)
   (case side2 => exact (Kd.R_reads' HO259.out).2.1)
   (case side3 => exact zE' (Kd.R_reads' HO259.out).2.2)
   (case side4 => exact (Kd.R_reads' HO259.out).2.1)
   rintro e w50 ⟨rfl, hb⟩; refine ⟨_, rfl, ?_⟩
   replace HO259 := (zRb HO259 hb)
   replace HO265 := (zRb HO265 hb)
   replace HO270 := (zRb HO270 hb)
   replace BK252 := (zK BK252 hb)
   replace BK253 := (zK BK253 hb)
   replace BK266 := (zK BK266 hb)
   replace BK267 := (zK BK267 hb)
   replace HB := (zB hb)
   (try clear hb)
   (try clear hb2)
   (try clear hk)
   (try clear hi)
   refine hK.out _ _ ⟨(blk_cell BK266.out 0).trans rfl, (blk_cell BK266.out 1).trans rfl, (blk_cell BK266.out 2).trans rfl, (blk_cell BK266.out 3).trans rfl, (blk_cell BK267.out 0).trans rfl, (blk_cell BK267.out 1).trans rfl, (blk_cell BK267.out 2).trans rfl, (blk_cell BK267.out 3).trans rfl⟩ (fun hHeld => ?_); clear hK K; refine norm_ (a' := ?_) ?_ ?_; rotate_left
   ·show Act.put _ (some 33) _ = _
    simp only [Act.put, List.setIfInBounds_toArray, List.set_cons_zero, List.set_cons_succ, i64_w, i32_w]; rfl
   refine zp 11 34 HT_ ?_; refine zp 12 35 HT_ ?_; refine done_ (done_of HT_.out (by kernel_rfl)) ?_; obtain ⟨hcz51_0, hcz51_1, hcz51_2, hcz51_3⟩ := zc4 BK266; obtain ⟨hfz51_0, hfz51_1, hfz51_2, hfz51_3⟩ := zz4 BK266
   try go_wp2_with (first | ((with_reducible refine zG 19 rfl ?_); refine zg 37 Try.func19 ((marginaliaref05_IsFormed.calls k t254 t255 t256 _ _ t257 true _ ?side1 ?side2 A11.out).mono ?_); (case side1 => exact zE' (Kd.R_reads' HO259.out).2.2); (case side2 => exact (Kd.R_reads' HO259.out).2.1); rintro e w52 ⟨rfl, hb⟩; refine ⟨_, rfl, ?_⟩; replace HO259 := (zRb HO259 hb); replace HO265 := (zRb HO265 hb); replace HO270 := (zRb HO270 hb); replace BK252 := (zK BK252 hb); replace BK253 := (zK BK253 hb); replace BK266 := (zK BK266 hb); replace BK267 := (zK BK267 hb); replace HB := (zB hb); (try clear hb); (try clear hb2); (try clear hk); (try clear hi); obtain ⟨hcz53_0, hcz53_1, hcz53_2, hcz53_3⟩ := zc4 BK267; obtain ⟨hfz53_0, hfz53_1, hfz53_2, hfz53_3⟩ := zz4 BK267) | (go_at_call 19; (with_reducible refine (marginaliaref05_IsFormed.calls k t260 t261 t262 _ _ t263 true _ ?side1 ?side2 A13.out).mono ?_); (case side1 => exact zE' (Kd.R_reads' HO265.out).2.2); (case side2 => exact (Kd.R_reads' HO265.out).2.1); rintro e w54 ⟨rfl, hb⟩; replace HO259 := (zRb HO259 hb); replace HO265 := (zRb HO265 hb); replace HO270 := (zRb HO270 hb); replace BK252 := (zK BK252 hb); replace BK253 := (zK BK253 hb); replace BK266 := (zK BK266 hb); replace BK267 := (zK BK267 hb); replace HB := (zB hb); (try clear hb); (try clear hb2); (try clear hk); (try clear hi); obtain ⟨hcz55_0, hcz55_1, hcz55_2, hcz55_3⟩ := zc4 BK266; obtain ⟨hfz55_0, hfz55_1, hfz55_2, hfz55_3⟩ := zz4 BK266; obtain ⟨hcz56_0, hcz56_1, hcz56_2, hcz56_3⟩ := zc4 BK267; obtain ⟨hfz56_0, hfz56_1, hfz56_2, hfz56_3⟩ := zz4 BK267) | ((with_reducible refine zG 38 rfl ?_); refine zg 61 Try.func38 ((marginaliaref05_Changed.calls k t254 t255 t256 _ _ t257 t260 t261 t262 _ _ t263 t278 t281 _ ?side1 ?side2 ?side3 ?side4 A15.out).mono ?_); (case side1 => exact zE' (Kd.R_reads' HO259.out).2.2); (case side2 => exact (Kd.R_reads' HO259.out).2.1); (case side3 => exact zE' (Kd.R_reads' HO265.out).2.2); (case side4 => exact (Kd.R_reads' HO265.out).2.1); rintro e w57 ⟨v279, rfl, ho0, hb⟩; refine ⟨_, rfl, ?_⟩; replace HO259 := (zRb HO259 hb); replace HO265 := (zRb HO265 hb); have HO280 := Aside0.mk (Kd.R_lower (Kd.R_new' ho0 (Kd.R_lt (zR HO270))) (below_size zb)); replace HO270 := Aside0.mk (Kd.R_elder' (zR HO270) (Kd.R_base ho0) hb); replace BK252 := (zK BK252 hb); replace BK253 := (zK BK253 hb); replace BK266 := (zK BK266 hb); replace BK267 := (zK BK267 hb); replace HB := (zB hb); (try clear hb); (try clear hb2); (try clear hk); (try clear hi); (try clear ho0); obtain ⟨Ao58, co58, eo58⟩ := Kd.R_slice HO270.out; subst eo58; obtain ⟨Ao59, co59, eo59⟩ := Kd.R_slice HO280.out; subst eo59) | ((with_reducible refine zG 23 rfl ?_); refine zg 66 Try.func23 ((marginaliaref05_Ints.calls k _ _ t268 _ _ t278 true _ ?side1 ?side2 ?side3 ?side4 A16.out).mono ?_); (case side1 => exact zE' (Kd.R_reads' HO270.out).2.2); (case side2 => exact (Kd.R_reads' HO270.out).2.1); (case side3 => exact zE' (Kd.R_reads' HO280.out).2.2); (case side4 => exact (Kd.R_reads' HO280.out).2.1); rintro e w' ⟨rfl, ⟨nd, rfl⟩⟩; refine ⟨_, rfl, ?_⟩) | (go_at_call 20; (with_reducible refine (marginalialaw05_alive.calls  t283 _ A20.out).mono ?_); rintro e w60 ⟨rfl, hb⟩; replace HO259 := (zRb HO259 hb); replace HO265 := (zRb HO265 hb); replace HO270 := (zRb HO270 hb); replace HO280 := (zRb HO280 hb); replace BK252 := (zK BK252 hb); replace BK253 := (zK BK253 hb); replace BK266 := (zK BK266 hb); replace BK267 := (zK BK267 hb); replace HB := (zB hb); (try clear hb); (try clear hb2); (try clear hk); (try clear hi)))
   go_ret; exact ⟨zr, zb⟩
  ·replace c14 := Bool.eq_false_iff.mpr c14; subst c14; replace H := zf H; replace H := zi3 H; obtain ⟨c61b0, c61b1, H⟩ := H; replace H := zj H; obtain ⟨c62, H⟩ := H; replace c62 := Bool.eq_false_iff.mpr c62; subst c62; replace H := zi3 H; obtain ⟨c63b0, c63b1, H⟩ := H; replace H := zo H; obtain ⟨t284, A64, H⟩ := H; obtain rfl := Option.some.inj H; have hnb83 := NB266_252.out; have hnc83 := NB252_266.out; have hnb84 := NB266_253.out; have hnc84 := NB253_266.out; have hnb85 := NB266_267.out; have hnc85 := NB267_266.out; obtain ⟨hcz86_0, hcz86_1, hcz86_2, hcz86_3⟩ := zc4 BK266; obtain ⟨hfz86_0, hfz86_1, hfz86_2, hfz86_3⟩ := zz4 BK266; have hnb87 := NB267_252.out; have hnc87 := NB252_267.out; have hnb88 := NB267_253.out; have hnc88 := NB253_267.out; obtain ⟨hcz89_0, hcz89_1, hcz89_2, hcz89_3⟩ := zc4 BK267; obtain ⟨hfz89_0, hfz89_1, hfz89_2, hfz89_3⟩ := zz4 BK267
   try go_wp2_with (first | ((with_reducible refine zG 35 rfl ?_); refine zg 19 Try.func35 ((tree_Changed.calls k t254 t255 t256 _ _ t257 t260 t261 t262 _ _ t263 t268 false t272 _ ?side1 ?side2 ?side3 ?side4 A5.out).mono ?_); (case side1 => refine (Kd.R_reads' (e := 26) (base := w.heap.size) (ok := fun k_ => (some k_ ≠ (.slice Ao37 t263.length co37 : Value).ownBlock ∧ (k_ ≠ gb252 ∧ (k_ ≠ gb253 ∧ (k_ ≠ gb266 ∧ k_ ≠ gb267))))) (n := t257.length) (c := co32) ?_).2.2; exact (by (with_reducible repeat (first | apply Kd.R_alloc | apply Kd.R_drewN | apply Kd.R_drew)); exact (Kd.R_mono (Kd.R_mono (Kd.R_far (p := ⟨gb267, 3, none⟩) (Kd.R_far (p := ⟨gb267, 2, none⟩) (Kd.R_far (p := ⟨gb267, 1, none⟩) (Kd.R_far (p := ⟨gb267, 0, none⟩) (Kd.R_far (p := ⟨gb266, 3, none⟩) (Kd.R_far (p := ⟨gb266, 2, none⟩) (Kd.R_far (p := ⟨gb266, 1, none⟩) (Kd.R_far (p := ⟨gb266, 0, none⟩) (Kd.R_mono (Kd.R_mono HO259.out (fun k_ hk => (⟨hk, hk.2.2.2.1⟩ : _ ∧ k_ ≠ gb266))) (fun k_ hk => (⟨hk, hk.1.2.2.2.2⟩ : _ ∧ k_ ≠ gb267))) (fun _ hk => hk.1.2) (.int .i64 t254)) (fun _ hk => hk.1.2) (.int .i64 t255)) (fun _ hk => hk.1.2) (.string t256)) (fun _ hk => hk.1.2) (.slice Ao32 t257.length co32)) (fun _ hk => hk.2) (.int .i64 t260)) (fun _ hk => hk.2) (.int .i64 t261)) (fun _ hk => hk.2) (.string t262)) (fun _ hk => hk.2) (.slice Ao37 t263.length co37)) (fun _ h_ => h_.1)) (fun _ h_ => h_.1)))); (case side2 => exact (Kd.R_reads' HO259.out).2.1); (case side3 => refine (Kd.R_reads' (e := 26) (base := w.heap.size) (ok := fun k_ => (some k_ ≠ (.slice Ao32 t257.length co32 : Value).ownBlock ∧ (k_ ≠ gb252 ∧ (k_ ≠ gb253 ∧ (k_ ≠ gb266 ∧ k_ ≠ gb267))))) (n := t263.length) (c := co37) ?_).2.2; exact (by (with_reducible repeat (first | apply Kd.R_alloc | apply Kd.R_drewN | apply Kd.R_drew)); exact (Kd.R_mono (Kd.R_mono (Kd.R_far (p := ⟨gb267, 3, none⟩) (Kd.R_far (p := ⟨gb267, 2, none⟩) (Kd.R_far (p := ⟨gb267, 1, none⟩) (Kd.R_far (p := ⟨gb267, 0, none⟩) (Kd.R_far (p := ⟨gb266, 3, none⟩) (Kd.R_far (p := ⟨gb266, 2, none⟩) (Kd.R_far (p := ⟨gb266, 1, none⟩) (Kd.R_far (p := ⟨gb266, 0, none⟩) (Kd.R_mono (Kd.R_mono HO265.out (fun k_ hk => (⟨hk, hk.2.2.2.1⟩ : _ ∧ k_ ≠ gb266))) (fun k_ hk => (⟨hk, hk.1.2.2.2.2⟩ : _ ∧ k_ ≠ gb267))) (fun _ hk => hk.1.2) (.int .i64 t254)) (fun _ hk => hk.1.2) (.int .i64 t255)) (fun _ hk => hk.1.2) (.string t256)) (fun _ hk => hk.1.2) (.slice Ao32 t257.length co32)) (fun _ hk => hk.2) (.int .i64 t260)) (fun _ hk => hk.2) (.int .i64 t261)) (fun _ hk => hk.2) (.string t262)) (fun _ hk => hk.2) (.slice Ao37 t263.length co37)) (fun _ h_ => h_.1)) (fun _ h_ => h_.1)))); (case side4 => exact (Kd.R_reads' HO265.out).2.1); rintro e w90 ⟨v269, rfl, ho0, hb⟩; refine ⟨_, rfl, ?_⟩; replace HO259 := Aside0.mk (Kd.R_below (by (with_reducible repeat (first | apply Kd.R_alloc | apply Kd.R_drewN | apply Kd.R_drew)); exact (Kd.R_mono (Kd.R_mono (Kd.R_far (p := ⟨gb267, 3, none⟩) (Kd.R_far (p := ⟨gb267, 2, none⟩) (Kd.R_far (p := ⟨gb267, 1, none⟩) (Kd.R_far (p := ⟨gb267, 0, none⟩) (Kd.R_far (p := ⟨gb266, 3, none⟩) (Kd.R_far (p := ⟨gb266, 2, none⟩) (Kd.R_far (p := ⟨gb266, 1, none⟩) (Kd.R_far (p := ⟨gb266, 0, none⟩) (Kd.R_mono (Kd.R_mono HO259.out (fun k_ hk => (⟨hk, hk.2.2.2.1⟩ : _ ∧ k_ ≠ gb266))) (fun k_ hk => (⟨hk, hk.1.2.2.2.2⟩ : _ ∧ k_ ≠ gb267))) (fun _ hk => hk.1.2) (.int .i64 t254)) (fun _ hk => hk.1.2) (.int .i64 t255)) (fun _ hk => hk.1.2) (.string t256)) (fun _ hk => hk.1.2) (.slice Ao32 t257.length co32)) (fun _ hk => hk.2) (.int .i64 t260)) (fun _ hk => hk.2) (.int .i64 t261)) (fun _ hk => hk.2) (.string t262)) (fun _ hk => hk.2) (.slice Ao37 t263.length co37)) (fun _ h_ => h_.1)) (fun _ h_ => h_.1))) hb); replace HO265 := Aside0.mk (Kd.R_below (by (with_reducible repeat (first | apply Kd.R_alloc | apply Kd.R_drewN | apply Kd.R_drew)); exact (Kd.R_mono (Kd.R_mono (Kd.R_far (p := ⟨gb267, 3, none⟩) (Kd.R_far (p := ⟨gb267, 2, none⟩) (Kd.R_far (p := ⟨gb267, 1, none⟩) (Kd.R_far (p := ⟨gb267, 0, none⟩) (Kd.R_far (p := ⟨gb266, 3, none⟩) (Kd.R_far (p := ⟨gb266, 2, none⟩) (Kd.R_far (p := ⟨gb266, 1, none⟩) (Kd.R_far (p := ⟨gb266, 0, none⟩) (Kd.R_mono (Kd.R_mono HO265.out (fun k_ hk => (⟨hk, hk.2.2.2.1⟩ : _ ∧ k_ ≠ gb266))) (fun k_ hk => (⟨hk, hk.1.2.2.2.2⟩ : _ ∧ k_ ≠ gb267))) (fun _ hk => hk.1.2) (.int .i64 t254)) (fun _ hk => hk.1.2) (.int .i64 t255)) (fun _ hk => hk.1.2) (.string t256)) (fun _ hk => hk.1.2) (.slice Ao32 t257.length co32)) (fun _ hk => hk.2) (.int .i64 t260)) (fun _ hk => hk.2) (.int .i64 t261)) (fun _ hk => hk.2) (.string t262)) (fun _ hk => hk.2) (.slice Ao37 t263.length co37)) (fun _ h_ => h_.1)) (fun _ h_ => h_.1))) hb); have HO270 := Aside0.mk (Kd.R_lower ho0 (below_size zb)); replace BK252 := (zw2 gb252 #[.int .i64 a0_0, .int .i64 a0_1, .string a0_2, .slice A0_3 l0_3.length c0_3] 26 hb); replace BK253 := (zw2 gb253 #[.int .i64 a1_0, .int .i64 a1_1, .string a1_2, .slice A1_3 l1_3.length c1_3] 26 hb); replace BK266 := (zw2 gb266 #[.int .i64 t254, .int .i64 t255, .string t256, .slice Ao32 t257.length co32] 26 hb); replace BK267 := (zw2 gb267 #[.int .i64 t260, .int .i64 t261, .string t262, .slice Ao37 t263.length co37] 26 hb); replace HB := (zB hb); (try clear hb); (try clear hb2); (try clear hk); (try clear hi); (try clear ho0)))
   replace HO259 := Aside0.mk (Kd.R_drew HO259.out); replace HO265 := Aside0.mk (Kd.R_drew HO265.out); replace HO270 := Aside0.mk (Kd.R_drew HO270.out); replace BK252 := Aside0.mk (blk_drew BK252.out); replace BK253 := Aside0.mk (blk_drew BK253.out); replace BK266 := Aside0.mk (blk_drew BK266.out); replace BK267 := Aside0.mk (blk_drew BK267.out); replace HB := Aside0.mk (below_drew1 HB.out); refine start_ (n := 13) (S := fun w' => w'.cell? ⟨gb266, 0, none⟩ = some (.int .i64 t254) ∧ w'.cell? ⟨gb266, 1, none⟩ = some (.int .i64 t255) ∧ w'.cell? ⟨gb266, 2, none⟩ = some (.string t256) ∧ w'.cell? ⟨gb266, 3, none⟩ = some (.slice Ao32 t257.length co32) ∧ w'.cell? ⟨gb267, 0, none⟩ = some (.int .i64 t260) ∧ w'.cell? ⟨gb267, 1, none⟩ = some (.int .i64 t261) ∧ w'.cell? ⟨gb267, 2, none⟩ = some (.string t262) ∧ w'.cell? ⟨gb267, 3, none⟩ = some (.slice Ao37 t263.length co37)) (ds := []) #[false, false, false, false, false, false, false, false, false, false, false, false, false] (by kernel_rfl) rfl rfl ⟨(blk_cell BK266.out 0).trans rfl, (blk_cell BK266.out 1).trans rfl, (blk_cell BK266.out 2).trans rfl, (blk_cell BK266.out 3).trans rfl, (blk_cell BK267.out 0).trans rfl, (blk_cell BK267.out 1).trans rfl, (blk_cell BK267.out 2).trans rfl, (blk_cell BK267.out 3).trans rfl⟩ (fun hHeld => ?_); refine with_tabW marginalialaw05_TreeSame.tab3 marginalialaw05_TreeSame.bits3 (fun HT_ HW_ => ?_); generalize w90.drew = w91 at HO259 HO265 HO270 BK252 BK253 BK266 BK267 HB hHeld ⊢; refine zy 0 23 HT_ HW_ hHeld ?_; refine zy 1 24 HT_ HW_ hHeld ?_; refine zy 3 26 HT_ HW_ hHeld ?_; refine zy 4 27 HT_ HW_ hHeld ?_; refine one_ (i := 2) (N := some 25) #[true, true, true, true, true, false, false, false, false, false, false, false, false] rfl rfl (one_of HT_.out (by kernel_rfl)) (by decide) (fun K hK => ?_); refine goes_ Try.func36 (by kernel_rfl) rfl #[.agg #[.int .i64 t254, .int .i64 t255, .string t256, .slice Ao32 t257.length co32], .agg #[.int .i64 t260, .int .i64 t261, .string t262, .slice Ao37 t263.length co37]] (by rfl) rfl rfl (by (try simp only [List.map_toArray, List.map_cons, List.map_nil]); first | done | rfl | (simp only [List.length_drop, List.length_take]; rfl)) ?_
   with_reducible refine (tree_Same.calls k t254 t255 t256 _ _ t257 t260 t261 t262 _ _ t263 t273 _ ?side1 ?side2 ?side3 ?side4 A6.out).mono ?_
   (case side1 => exact zE' (Kd.R_reads' HO259.out).2.2)
   (case side2 => exact (Kd.R_reads' HO259.out).2.1)
   (case side3 => exact zE' (Kd.R_reads' HO265.out).2.2)
   (case side4 => exact (Kd.R_reads' HO265.out).2.1)
   rintro e w92 ⟨rfl, hb⟩; refine ⟨_, rfl, ?_⟩
   replace HO259 := (zRb HO259 hb)
   replace HO265 := (zRb HO265 hb)
   replace HO270 := (zRb HO270 hb)
   replace BK252 := (zK BK252 hb)
   replace BK253 := (zK BK253 hb)
   replace BK266 := (zK BK266 hb)
   replace BK267 := (zK BK267 hb)
   replace HB := (zB hb)
   (try clear hb)
   (try clear hb2)
   (try clear hk)
   (try clear hi)
   refine hK.out _ _ ⟨(blk_cell BK266.out 0).trans rfl, (blk_cell BK266.out 1).trans rfl, (blk_cell BK266.out 2).trans rfl, (blk_cell BK266.out 3).trans rfl, (blk_cell BK267.out 0).trans rfl, (blk_cell BK267.out 1).trans rfl, (blk_cell BK267.out 2).trans rfl, (blk_cell BK267.out 3).trans rfl⟩ (fun hHeld => ?_); clear hK K; refine norm_ (a' := ?_) ?_ ?_; rotate_left
   ·show Act.put _ (some 25) _ = _
    simp only [Act.put, List.setIfInBounds_toArray, List.set_cons_zero, List.set_cons_succ, i64_w, i32_w]; rfl
   refine one_ (i := 5) (N := some 28) #[true, true, true, true, true, true, false, false, false, false, false, false, false] rfl rfl (one_of HT_.out (by kernel_rfl)) (by decide) (fun K hK => ?_); refine goes_ Try.func37 (by kernel_rfl) rfl #[.agg #[.int .i64 t254, .int .i64 t255, .string t256, .slice Ao32 t257.length co32], .agg #[.int .i64 t260, .int .i64 t261, .string t262, .slice Ao37 t263.length co37]] (by rfl) rfl rfl (by (try simp only [List.map_toArray, List.map_cons, List.map_nil]); first | done | rfl | (simp only [List.length_drop, List.length_take]; rfl)) ?_
   with_reducible refine (marginaliaref05_Same.calls k t254 t255 t256 _ _ t257 t260 t261 t262 _ _ t263 t274 _ ?side1 ?side2 ?side3 ?side4 A7.out).mono ?_
   (case side1 => exact zE' (Kd.R_reads' HO259.out).2.2)
   (case side2 => exact (Kd.R_reads' HO259.out).2.1)
   (case side3 => exact zE' (Kd.R_reads' HO265.out).2.2)
   (case side4 => exact (Kd.R_reads' HO265.out).2.1)
   rintro e w93 ⟨rfl, hb⟩; refine ⟨_, rfl, ?_⟩
   replace HO259 := (zRb HO259 hb)
   replace HO265 := (zRb HO265 hb)
   replace HO270 := (zRb HO270 hb)
   replace BK252 := (zK BK252 hb)
   replace BK253 := (zK BK253 hb)
   replace BK266 := (zK BK266 hb)
   replace BK267 := (zK BK267 hb)
   replace HB := (zB hb)
   (try clear hb)
   (try clear hb2)
   (try clear hk)
   (try clear hi)
   refine hK.out _ _ ⟨(blk_cell BK266.out 0).trans rfl, (blk_cell BK266.out 1).trans rfl, (blk_cell BK266.out 2).trans rfl, (blk_cell BK266.out 3).trans rfl, (blk_cell BK267.out 0).trans rfl, (blk_cell BK267.out 1).trans rfl, (blk_cell BK267.out 2).trans rfl, (blk_cell BK267.out 3).trans rfl⟩ (fun hHeld => ?_); clear hK K; refine norm_ (a' := ?_) ?_ ?_; rotate_left
   ·show Act.put _ (some 28) _ = _
    simp only [Act.put, List.setIfInBounds_toArray, List.set_cons_zero, List.set_cons_succ, i64_w, i32_w]; rfl
   refine zp 6 29 HT_ ?_; refine zp 7 30 HT_ ?_; refine zy 8 31 HT_ HW_ hHeld ?_; refine zy 9 32 HT_ HW_ hHeld ?_; refine one_ (i := 10) (N := some 33) #[true, true, true, true, true, true, true, true, true, true, true, false, false] rfl rfl (one_of HT_.out (by kernel_rfl)) (by decide) (fun K hK => ?_); refine goes_ Try.func36 (by kernel_rfl) rfl #[.agg #[.int .i64 t254, .int .i64 t255, .string t256, .slice Ao32 t257.length co32], .agg #[.int .i64 t254, .int .i64 t255, .string t256, .slice Ao32 t257.length co32]] (by rfl) rfl rfl (by (try simp only [List.map_toArray, List.map_cons, List.map_nil]); first | done | rfl | (simp only [List.length_drop, List.length_take]; rfl)) ?_
   with_reducible refine (tree_Same.calls k t254 t255 t256 _ _ t257 t254 t255 t256 _ _ t257 true _ ?side1 ?side2 ?side3 ?side4 A9.out).mono ?_
   (case side1 => exact zE' (Kd.R_reads' HO259.out).2.2)
   (case side2 => exact (Kd.R_reads' HO259.out).2.1)
   (case side3 => exact zE' (Kd.R_reads' HO259.out).2.2)
   (case side4 => exact (Kd.R_reads' HO259.out).2.1)
   rintro e w94 ⟨rfl, hb⟩; refine ⟨_, rfl, ?_⟩
   replace HO259 := (zRb HO259 hb)
   replace HO265 := (zRb HO265 hb)
   replace HO270 := (zRb HO270 hb)
   replace BK252 := (zK BK252 hb)
   replace BK253 := (zK BK253 hb)
   replace BK266 := (zK BK266 hb)
   replace BK267 := (zK BK267 hb)
   replace HB := (zB hb)
   (try clear hb)
   (try clear hb2)
   (try clear hk)
   (try clear hi)
   refine hK.out _ _ ⟨(blk_cell BK266.out 0).trans rfl, (blk_cell BK266.out 1).trans rfl, (blk_cell BK266.out 2).trans rfl, (blk_cell BK266.out 3).trans rfl, (blk_cell BK267.out 0).trans rfl, (blk_cell BK267.out 1).trans rfl, (blk_cell BK267.out 2).trans rfl, (blk_cell BK267.out 3).trans rfl⟩ (fun hHeld => ?_); clear hK K; refine norm_ (a' := ?_) ?_ ?_; rotate_left
   ·show Act.put _ (some 33) _ = _
    simp only [Act.put, List.setIfInBounds_toArray, List.set_cons_zero, List.set_cons_succ, i64_w, i32_w]; rfl
   refine zp 11 34 HT_ ?_; refine zp 12 35 HT_ ?_; refine done_ (done_of HT_.out (by kernel_rfl)) ?_; obtain ⟨hcz95_0, hcz95_1, hcz95_2, hcz95_3⟩ := zc4 BK266; obtain ⟨hfz95_0, hfz95_1, hfz95_2, hfz95_3⟩ := zz4 BK266
   try go_wp2_with (first | ((with_reducible refine zG 19 rfl ?_); refine zg 37 Try.func19 ((marginaliaref05_IsFormed.calls k t254 t255 t256 _ _ t257 true _ ?side1 ?side2 A11.out).mono ?_); (case side1 => exact zE' (Kd.R_reads' HO259.out).2.2); (case side2 => exact (Kd.R_reads' HO259.out).2.1); rintro e w96 ⟨rfl, hb⟩; refine ⟨_, rfl, ?_⟩; replace HO259 := (zRb HO259 hb); replace HO265 := (zRb HO265 hb); replace HO270 := (zRb HO270 hb); replace BK252 := (zK BK252 hb); replace BK253 := (zK BK253 hb); replace BK266 := (zK BK266 hb); replace BK267 := (zK BK267 hb); replace HB := (zB hb); (try clear hb); (try clear hb2); (try clear hk); (try clear hi); obtain ⟨hcz97_0, hcz97_1, hcz97_2, hcz97_3⟩ := zc4 BK267; obtain ⟨hfz97_0, hfz97_1, hfz97_2, hfz97_3⟩ := zz4 BK267) | (go_at_call 19; (with_reducible refine (marginaliaref05_IsFormed.calls k t260 t261 t262 _ _ t263 false _ ?side1 ?side2 A13.out).mono ?_); (case side1 => exact zE' (Kd.R_reads' HO265.out).2.2); (case side2 => exact (Kd.R_reads' HO265.out).2.1); rintro e w98 ⟨rfl, hb⟩; replace HO259 := (zRb HO259 hb); replace HO265 := (zRb HO265 hb); replace HO270 := (zRb HO270 hb); replace BK252 := (zK BK252 hb); replace BK253 := (zK BK253 hb); replace BK266 := (zK BK266 hb); replace BK267 := (zK BK267 hb); replace HB := (zB hb); (try clear hb); (try clear hb2); (try clear hk); (try clear hi); obtain ⟨Ao99, co99, eo99⟩ := Kd.R_slice HO270.out; subst eo99) | (go_at_call 20; (with_reducible refine (marginalialaw05_alive.calls  t284 _ A64.out).mono ?_); rintro e w100 ⟨rfl, hb⟩; replace HO259 := (zRb HO259 hb); replace HO265 := (zRb HO265 hb); replace HO270 := (zRb HO270 hb); replace BK252 := (zK BK252 hb); replace BK253 := (zK BK253 hb); replace BK266 := (zK BK266 hb); replace BK267 := (zK BK267 hb); replace HB := (zB hb); (try clear hb); (try clear hb2); (try clear hk); (try clear hi)))
   go_ret; exact ⟨zr, zb⟩
 ·replace c12 := Bool.eq_false_iff.mpr c12; subst c12; replace H := zf H; replace H := zi3 H; obtain ⟨c101b0, c101b1, H⟩ := H; replace H := zj H; obtain ⟨c102, H⟩ := H; replace c102 := Bool.eq_false_iff.mpr c102; subst c102; replace H := zi3 H; obtain ⟨c103b0, c103b1, H⟩ := H; replace H := zo H; obtain ⟨t285, A104, H⟩ := H; obtain rfl := Option.some.inj H; have hnb123 := NB266_252.out; have hnc123 := NB252_266.out; have hnb124 := NB266_253.out; have hnc124 := NB253_266.out; have hnb125 := NB266_267.out; have hnc125 := NB267_266.out; obtain ⟨hcz126_0, hcz126_1, hcz126_2, hcz126_3⟩ := zc4 BK266; obtain ⟨hfz126_0, hfz126_1, hfz126_2, hfz126_3⟩ := zz4 BK266; have hnb127 := NB267_252.out; have hnc127 := NB252_267.out; have hnb128 := NB267_253.out; have hnc128 := NB253_267.out; obtain ⟨hcz129_0, hcz129_1, hcz129_2, hcz129_3⟩ := zc4 BK267; obtain ⟨hfz129_0, hfz129_1, hfz129_2, hfz129_3⟩ := zz4 BK267
  try go_wp2_with (first | ((with_reducible refine zG 35 rfl ?_); refine zg 19 Try.func35 ((tree_Changed.calls k t254 t255 t256 _ _ t257 t260 t261 t262 _ _ t263 t268 false t272 _ ?side1 ?side2 ?side3 ?side4 A5.out).mono ?_); (case side1 => refine (Kd.R_reads' (e := 26) (base := w.heap.size) (ok := fun k_ => (some k_ ≠ (.slice Ao37 t263.length co37 : Value).ownBlock ∧ (k_ ≠ gb252 ∧ (k_ ≠ gb253 ∧ (k_ ≠ gb266 ∧ k_ ≠ gb267))))) (n := t257.length) (c := co32) ?_).2.2; exact (by (with_reducible repeat (first | apply Kd.R_alloc | apply Kd.R_drewN | apply Kd.R_drew)); exact (Kd.R_mono (Kd.R_mono (Kd.R_far (p := ⟨gb267, 3, none⟩) (Kd.R_far (p := ⟨gb267, 2, none⟩) (Kd.R_far (p := ⟨gb267, 1, none⟩) (Kd.R_far (p := ⟨gb267, 0, none⟩) (Kd.R_far (p := ⟨gb266, 3, none⟩) (Kd.R_far (p := ⟨gb266, 2, none⟩) (Kd.R_far (p := ⟨gb266, 1, none⟩) (Kd.R_far (p := ⟨gb266, 0, none⟩) (Kd.R_mono (Kd.R_mono HO259.out (fun k_ hk => (⟨hk, hk.2.2.2.1⟩ : _ ∧ k_ ≠ gb266))) (fun k_ hk => (⟨hk, hk.1.2.2.2.2⟩ : _ ∧ k_ ≠ gb267))) (fun _ hk => hk.1.2) (.int .i64 t254)) (fun _ hk => hk.1.2) (.int .i64 t255)) (fun _ hk => hk.1.2) (.string t256)) (fun _ hk => hk.1.2) (.slice Ao32 t257.length co32)) (fun _ hk => hk.2) (.int .i64 t260)) (fun _ hk => hk.2) (.int .i64 t261)) (fun _ hk => hk.2) (.string t262)) (fun _ hk => hk.2) (.slice Ao37 t263.length co37)) (fun _ h_ => h_.1)) (fun _ h_ => h_.1)))); (case side2 => exact (Kd.R_reads' HO259.out).2.1); (case side3 => refine (Kd.R_reads' (e := 26) (base := w.heap.size) (ok := fun k_ => (some k_ ≠ (.slice Ao32 t257.length co32 : Value).ownBlock ∧ (k_ ≠ gb252 ∧ (k_ ≠ gb253 ∧ (k_ ≠ gb266 ∧ k_ ≠ gb267))))) (n := t263.length) (c := co37) ?_).2.2; exact (by (with_reducible repeat (first | apply Kd.R_alloc | apply Kd.R_drewN | apply Kd.R_drew)); exact (Kd.R_mono (Kd.R_mono (Kd.R_far (p := ⟨gb267, 3, none⟩) (Kd.R_far (p := ⟨gb267, 2, none⟩) (Kd.R_far (p := ⟨gb267, 1, none⟩) (Kd.R_far (p := ⟨gb267, 0, none⟩) (Kd.R_far (p := ⟨gb266, 3, none⟩) (Kd.R_far (p := ⟨gb266, 2, none⟩) (Kd.R_far (p := ⟨gb266, 1, none⟩) (Kd.R_far (p := ⟨gb266, 0, none⟩) (Kd.R_mono (Kd.R_mono HO265.out (fun k_ hk => (⟨hk, hk.2.2.2.1⟩ : _ ∧ k_ ≠ gb266))) (fun k_ hk => (⟨hk, hk.1.2.2.2.2⟩ : _ ∧ k_ ≠ gb267))) (fun _ hk => hk.1.2) (.int .i64 t254)) (fun _ hk => hk.1.2) (.int .i64 t255)) (fun _ hk => hk.1.2) (.string t256)) (fun _ hk => hk.1.2) (.slice Ao32 t257.length co32)) (fun _ hk => hk.2) (.int .i64 t260)) (fun _ hk => hk.2) (.int .i64 t261)) (fun _ hk => hk.2) (.string t262)) (fun _ hk => hk.2) (.slice Ao37 t263.length co37)) (fun _ h_ => h_.1)) (fun _ h_ => h_.1)))); (case side4 => exact (Kd.R_reads' HO265.out).2.1); rintro e w130 ⟨v269, rfl, ho0, hb⟩; refine ⟨_, rfl, ?_⟩; replace HO259 := Aside0.mk (Kd.R_below (by (with_reducible repeat (first | apply Kd.R_alloc | apply Kd.R_drewN | apply Kd.R_drew)); exact (Kd.R_mono (Kd.R_mono (Kd.R_far (p := ⟨gb267, 3, none⟩) (Kd.R_far (p := ⟨gb267, 2, none⟩) (Kd.R_far (p := ⟨gb267, 1, none⟩) (Kd.R_far (p := ⟨gb267, 0, none⟩) (Kd.R_far (p := ⟨gb266, 3, none⟩) (Kd.R_far (p := ⟨gb266, 2, none⟩) (Kd.R_far (p := ⟨gb266, 1, none⟩) (Kd.R_far (p := ⟨gb266, 0, none⟩) (Kd.R_mono (Kd.R_mono HO259.out (fun k_ hk => (⟨hk, hk.2.2.2.1⟩ : _ ∧ k_ ≠ gb266))) (fun k_ hk => (⟨hk, hk.1.2.2.2.2⟩ : _ ∧ k_ ≠ gb267))) (fun _ hk => hk.1.2) (.int .i64 t254)) (fun _ hk => hk.1.2) (.int .i64 t255)) (fun _ hk => hk.1.2) (.string t256)) (fun _ hk => hk.1.2) (.slice Ao32 t257.length co32)) (fun _ hk => hk.2) (.int .i64 t260)) (fun _ hk => hk.2) (.int .i64 t261)) (fun _ hk => hk.2) (.string t262)) (fun _ hk => hk.2) (.slice Ao37 t263.length co37)) (fun _ h_ => h_.1)) (fun _ h_ => h_.1))) hb); replace HO265 := Aside0.mk (Kd.R_below (by (with_reducible repeat (first | apply Kd.R_alloc | apply Kd.R_drewN | apply Kd.R_drew)); exact (Kd.R_mono (Kd.R_mono (Kd.R_far (p := ⟨gb267, 3, none⟩) (Kd.R_far (p := ⟨gb267, 2, none⟩) (Kd.R_far (p := ⟨gb267, 1, none⟩) (Kd.R_far (p := ⟨gb267, 0, none⟩) (Kd.R_far (p := ⟨gb266, 3, none⟩) (Kd.R_far (p := ⟨gb266, 2, none⟩) (Kd.R_far (p := ⟨gb266, 1, none⟩) (Kd.R_far (p := ⟨gb266, 0, none⟩) (Kd.R_mono (Kd.R_mono HO265.out (fun k_ hk => (⟨hk, hk.2.2.2.1⟩ : _ ∧ k_ ≠ gb266))) (fun k_ hk => (⟨hk, hk.1.2.2.2.2⟩ : _ ∧ k_ ≠ gb267))) (fun _ hk => hk.1.2) (.int .i64 t254)) (fun _ hk => hk.1.2) (.int .i64 t255)) (fun _ hk => hk.1.2) (.string t256)) (fun _ hk => hk.1.2) (.slice Ao32 t257.length co32)) (fun _ hk => hk.2) (.int .i64 t260)) (fun _ hk => hk.2) (.int .i64 t261)) (fun _ hk => hk.2) (.string t262)) (fun _ hk => hk.2) (.slice Ao37 t263.length co37)) (fun _ h_ => h_.1)) (fun _ h_ => h_.1))) hb); have HO270 := Aside0.mk (Kd.R_lower ho0 (below_size zb)); replace BK252 := (zw2 gb252 #[.int .i64 a0_0, .int .i64 a0_1, .string a0_2, .slice A0_3 l0_3.length c0_3] 26 hb); replace BK253 := (zw2 gb253 #[.int .i64 a1_0, .int .i64 a1_1, .string a1_2, .slice A1_3 l1_3.length c1_3] 26 hb); replace BK266 := (zw2 gb266 #[.int .i64 t254, .int .i64 t255, .string t256, .slice Ao32 t257.length co32] 26 hb); replace BK267 := (zw2 gb267 #[.int .i64 t260, .int .i64 t261, .string t262, .slice Ao37 t263.length co37] 26 hb); replace HB := (zB hb); (try clear hb); (try clear hb2); (try clear hk); (try clear hi); (try clear ho0)))
  replace HO259 := Aside0.mk (Kd.R_drew HO259.out); replace HO265 := Aside0.mk (Kd.R_drew HO265.out); replace HO270 := Aside0.mk (Kd.R_drew HO270.out); replace BK252 := Aside0.mk (blk_drew BK252.out); replace BK253 := Aside0.mk (blk_drew BK253.out); replace BK266 := Aside0.mk (blk_drew BK266.out); replace BK267 := Aside0.mk (blk_drew BK267.out); replace HB := Aside0.mk (below_drew1 HB.out); refine start_ (n := 13) (S := fun w' => w'.cell? ⟨gb266, 0, none⟩ = some (.int .i64 t254) ∧ w'.cell? ⟨gb266, 1, none⟩ = some (.int .i64 t255) ∧ w'.cell? ⟨gb266, 2, none⟩ = some (.string t256) ∧ w'.cell? ⟨gb266, 3, none⟩ = some (.slice Ao32 t257.length co32) ∧ w'.cell? ⟨gb267, 0, none⟩ = some (.int .i64 t260) ∧ w'.cell? ⟨gb267, 1, none⟩ = some (.int .i64 t261) ∧ w'.cell? ⟨gb267, 2, none⟩ = some (.string t262) ∧ w'.cell? ⟨gb267, 3, none⟩ = some (.slice Ao37 t263.length co37)) (ds := []) #[false, false, false, false, false, false, false, false, false, false, false, false, false] (by kernel_rfl) rfl rfl ⟨(blk_cell BK266.out 0).trans rfl, (blk_cell BK266.out 1).trans rfl, (blk_cell BK266.out 2).trans rfl, (blk_cell BK266.out 3).trans rfl, (blk_cell BK267.out 0).trans rfl, (blk_cell BK267.out 1).trans rfl, (blk_cell BK267.out 2).trans rfl, (blk_cell BK267.out 3).trans rfl⟩ (fun hHeld => ?_); refine with_tabW marginalialaw05_TreeSame.tab3 marginalialaw05_TreeSame.bits3 (fun HT_ HW_ => ?_); generalize w130.drew = w131 at HO259 HO265 HO270 BK252 BK253 BK266 BK267 HB hHeld ⊢; refine zy 0 23 HT_ HW_ hHeld ?_; refine zy 1 24 HT_ HW_ hHeld ?_; refine zy 3 26 HT_ HW_ hHeld ?_; refine zy 4 27 HT_ HW_ hHeld ?_; refine one_ (i := 2) (N := some 25) #[true, true, true, true, true, false, false, false, false, false, false, false, false] rfl rfl (one_of HT_.out (by kernel_rfl)) (by decide) (fun K hK => ?_); refine goes_ Try.func36 (by kernel_rfl) rfl #[.agg #[.int .i64 t254, .int .i64 t255, .string t256, .slice Ao32 t257.length co32], .agg #[.int .i64 t260, .int .i64 t261, .string t262, .slice Ao37 t263.length co37]] (by rfl) rfl rfl (by (try simp only [List.map_toArray, List.map_cons, List.map_nil]); first | done | rfl | (simp only [List.length_drop, List.length_take]; rfl)) ?_
  with_reducible refine (tree_Same.calls k t254 t255 t256 _ _ t257 t260 t261 t262 _ _ t263 t273 _ ?side1 ?side2 ?side3 ?side4 A6.out).mono ?_
  (case side1 => exact zE' (Kd.R_reads' HO259.out).2.2)
  (case side2 => exact (Kd.R_reads' HO259.out).2.1)
  (case side3 => exact zE' (Kd.R_reads' HO265.out).2.2)
  (case side4 => exact (Kd.R_reads' HO265.out).2.1)
  rintro e w132 ⟨rfl, hb⟩; refine ⟨_, rfl, ?_⟩
  replace HO259 := (zRb HO259 hb)
  replace HO265 := (zRb HO265 hb)
  replace HO270 := (zRb HO270 hb)
  replace BK252 := (zK BK252 hb)
  replace BK253 := (zK BK253 hb)
  replace BK266 := (zK BK266 hb)
  replace BK267 := (zK BK267 hb)
  replace HB := (zB hb)
  (try clear hb)
  (try clear hb2)
  (try clear hk)
  (try clear hi)
  refine hK.out _ _ ⟨(blk_cell BK266.out 0).trans rfl, (blk_cell BK266.out 1).trans rfl, (blk_cell BK266.out 2).trans rfl, (blk_cell BK266.out 3).trans rfl, (blk_cell BK267.out 0).trans rfl, (blk_cell BK267.out 1).trans rfl, (blk_cell BK267.out 2).trans rfl, (blk_cell BK267.out 3).trans rfl⟩ (fun hHeld => ?_); clear hK K; refine norm_ (a' := ?_) ?_ ?_; rotate_left
  ·show Act.put _ (some 25) _ = _
   simp only [Act.put, List.setIfInBounds_toArray, List.set_cons_zero, List.set_cons_succ, i64_w, i32_w]; rfl
  refine one_ (i := 5) (N := some 28) #[true, true, true, true, true, true, false, false, false, false, false, false, false] rfl rfl (one_of HT_.out (by kernel_rfl)) (by decide) (fun K hK => ?_); refine goes_ Try.func37 (by kernel_rfl) rfl #[.agg #[.int .i64 t254, .int .i64 t255, .string t256, .slice Ao32 t257.length co32], .agg #[.int .i64 t260, .int .i64 t261, .string t262, .slice Ao37 t263.length co37]] (by rfl) rfl rfl (by (try simp only [List.map_toArray, List.map_cons, List.map_nil]); first | done | rfl | (simp only [List.length_drop, List.length_take]; rfl)) ?_
  with_reducible refine (marginaliaref05_Same.calls k t254 t255 t256 _ _ t257 t260 t261 t262 _ _ t263 t274 _ ?side1 ?side2 ?side3 ?side4 A7.out).mono ?_
  (case side1 => exact zE' (Kd.R_reads' HO259.out).2.2)
  (case side2 => exact (Kd.R_reads' HO259.out).2.1)
  (case side3 => exact zE' (Kd.R_reads' HO265.out).2.2)
  (case side4 => exact (Kd.R_reads' HO265.out).2.1)
  rintro e w133 ⟨rfl, hb⟩; refine ⟨_, rfl, ?_⟩
  replace HO259 := (zRb HO259 hb)
  replace HO265 := (zRb HO265 hb)
  replace HO270 := (zRb HO270 hb)
  replace BK252 := (zK BK252 hb)
  replace BK253 := (zK BK253 hb)
  replace BK266 := (zK BK266 hb)
  replace BK267 := (zK BK267 hb)
  replace HB := (zB hb)
  (try clear hb)
  (try clear hb2)
  (try clear hk)
  (try clear hi)
  refine hK.out _ _ ⟨(blk_cell BK266.out 0).trans rfl, (blk_cell BK266.out 1).trans rfl, (blk_cell BK266.out 2).trans rfl, (blk_cell BK266.out 3).trans rfl, (blk_cell BK267.out 0).trans rfl, (blk_cell BK267.out 1).trans rfl, (blk_cell BK267.out 2).trans rfl, (blk_cell BK267.out 3).trans rfl⟩ (fun hHeld => ?_); clear hK K; refine norm_ (a' := ?_) ?_ ?_; rotate_left
  ·show Act.put _ (some 28) _ = _
   simp only [Act.put, List.setIfInBounds_toArray, List.set_cons_zero, List.set_cons_succ, i64_w, i32_w]; rfl
  refine zp 6 29 HT_ ?_; refine zp 7 30 HT_ ?_; refine zy 8 31 HT_ HW_ hHeld ?_; refine zy 9 32 HT_ HW_ hHeld ?_; refine one_ (i := 10) (N := some 33) #[true, true, true, true, true, true, true, true, true, true, true, false, false] rfl rfl (one_of HT_.out (by kernel_rfl)) (by decide) (fun K hK => ?_); refine goes_ Try.func36 (by kernel_rfl) rfl #[.agg #[.int .i64 t254, .int .i64 t255, .string t256, .slice Ao32 t257.length co32], .agg #[.int .i64 t254, .int .i64 t255, .string t256, .slice Ao32 t257.length co32]] (by rfl) rfl rfl (by (try simp only [List.map_toArray, List.map_cons, List.map_nil]); first | done | rfl | (simp only [List.length_drop, List.length_take]; rfl)) ?_
  with_reducible refine (tree_Same.calls k t254 t255 t256 _ _ t257 t254 t255 t256 _ _ t257 true _ ?side1 ?side2 ?side3 ?side4 A9.out).mono ?_
  (case side1 => exact zE' (Kd.R_reads' HO259.out).2.2)
  (case side2 => exact (Kd.R_reads' HO259.out).2.1)
  (case side3 => exact zE' (Kd.R_reads' HO259.out).2.2)
  (case side4 => exact (Kd.R_reads' HO259.out).2.1)
  rintro e w134 ⟨rfl, hb⟩; refine ⟨_, rfl, ?_⟩
  replace HO259 := (zRb HO259 hb)
  replace HO265 := (zRb HO265 hb)
  replace HO270 := (zRb HO270 hb)
  replace BK252 := (zK BK252 hb)
  replace BK253 := (zK BK253 hb)
  replace BK266 := (zK BK266 hb)
  replace BK267 := (zK BK267 hb)
  replace HB := (zB hb)
  (try clear hb)
  (try clear hb2)
  (try clear hk)
  (try clear hi)
  refine hK.out _ _ ⟨(blk_cell BK266.out 0).trans rfl, (blk_cell BK266.out 1).trans rfl, (blk_cell BK266.out 2).trans rfl, (blk_cell BK266.out 3).trans rfl, (blk_cell BK267.out 0).trans rfl, (blk_cell BK267.out 1).trans rfl, (blk_cell BK267.out 2).trans rfl, (blk_cell BK267.out 3).trans rfl⟩ (fun hHeld => ?_); clear hK K; refine norm_ (a' := ?_) ?_ ?_; rotate_left
  ·show Act.put _ (some 33) _ = _
   simp only [Act.put, List.setIfInBounds_toArray, List.set_cons_zero, List.set_cons_succ, i64_w, i32_w]; rfl
  refine zp 11 34 HT_ ?_; refine zp 12 35 HT_ ?_; refine done_ (done_of HT_.out (by kernel_rfl)) ?_; obtain ⟨hcz135_0, hcz135_1, hcz135_2, hcz135_3⟩ := zc4 BK266; obtain ⟨hfz135_0, hfz135_1, hfz135_2, hfz135_3⟩ := zz4 BK266
  try go_wp2_with (first | ((with_reducible refine zG 19 rfl ?_); refine zg 37 Try.func19 ((marginaliaref05_IsFormed.calls k t254 t255 t256 _ _ t257 false _ ?side1 ?side2 A11.out).mono ?_); (case side1 => exact zE' (Kd.R_reads' HO259.out).2.2); (case side2 => exact (Kd.R_reads' HO259.out).2.1); rintro e w136 ⟨rfl, hb⟩; refine ⟨_, rfl, ?_⟩; replace HO259 := (zRb HO259 hb); replace HO265 := (zRb HO265 hb); replace HO270 := (zRb HO270 hb); replace BK252 := (zK BK252 hb); replace BK253 := (zK BK253 hb); replace BK266 := (zK BK266 hb); replace BK267 := (zK BK267 hb); replace HB := (zB hb); (try clear hb); (try clear hb2); (try clear hk); (try clear hi); obtain ⟨Ao137, co137, eo137⟩ := Kd.R_slice HO270.out; subst eo137) | (go_at_call 20; (with_reducible refine (marginalialaw05_alive.calls  t285 _ A104.out).mono ?_); rintro e w138 ⟨rfl, hb⟩; replace HO259 := (zRb HO259 hb); replace HO265 := (zRb HO265 hb); replace HO270 := (zRb HO270 hb); replace BK252 := (zK BK252 hb); replace BK253 := (zK BK253 hb); replace BK266 := (zK BK266 hb); replace BK267 := (zK BK267 hb); replace HB := (zB hb); (try clear hb); (try clear hb2); (try clear hk); (try clear hi)))
  go_ret; exact ⟨zr, zb⟩

end Go.Proofs.Ytnafnieocpkkhaa.P

set_option linter.unusedVariables false
set_option linter.unusedSimpArgs false
namespace Go.Proofs.Ytnafnieocpkkhaa.P
open Go Go.RowKit Go.Proofs.Ytnafnieocpkkhaa Go.Proofs.YtnafnieocpkkhaaW.PrintWords Go.Proofs.YtnafnieocpkkhaaW.PrintLast Go.Proofs.YtnafnieocpkkhaaW.PrintMore
theorem lawSame_ev (a b : Nd) : Ev (fun k => marginalialaw05_TreeSame.f k a.f0 a.f1.f0 a.f1.f1 a.f2 b.f0 b.f1.f0 b.f1.f1 b.f2) true := by
 obtain ⟨n, hn, hn1, hn2⟩ := lawcut_ev a; obtain ⟨x, hx, hx1, hx2⟩ := lawcut_ev b
 have sn : sm n := ⟨by omega, by omega⟩
 have sx : sm x := ⟨by omega, by omega⟩
 have hal : Ev (fun _ => (marginalialaw05_alive.f).bind fun t => some t) true := Ev.bind1 (a := true) rfl (Ev.now _); unfold marginalialaw05_TreeSame.f; have hC := Changed_ev n x sn sx; have hR := rChanged_ev n x sn; by_cases h1 : fmd n = true
 ·by_cases h2 : fmd x = true
  ·rw [if_pos ⟨h1, h2⟩] at hC; by_cases h3 : eqN n x = true
   ·rw [if_pos h3] at hC hR; exact Ev.bind hn (Ev.bind hx (Ev.bind hC (Ev.bind (tsame_ev n x) (Ev.bind (rsame_evN n x sn) (Ev.neg (by simp) (Ev.bind (tsame_ev n n) (Ev.pos (eqN_refl n) (Ev.bind (rIsFormed_ev n sn) (Ev.pos h1 (Ev.bind (rIsFormed_ev x sx) (Ev.pos h2 (Ev.bind hR (Ev.bind (Ints_ev [] (by simp)) (Ev.pos rfl (Ev.pos rfl (Ev.pos rfl hal))))))))))))))))
   ·rw [if_neg h3] at hC hR; have hl := chg_len (nd n) n x; exact Ev.bind hn (Ev.bind hx (Ev.bind hC (Ev.bind (tsame_ev n x) (Ev.bind (rsame_evN n x sn) (Ev.neg (by simp) (Ev.bind (tsame_ev n n) (Ev.pos (eqN_refl n) (Ev.bind (rIsFormed_ev n sn) (Ev.pos h1 (Ev.bind (rIsFormed_ev x sx) (Ev.pos h2 (Ev.bind hR (Ev.bind (Ints_ev (chg (nd n) n x) (by omega)) (Ev.pos rfl (Ev.pos rfl (Ev.pos rfl hal))))))))))))))))
  ·rw [if_neg (fun q => h2 q.2)] at hC; exact Ev.bind hn (Ev.bind hx (Ev.bind hC (Ev.bind (tsame_ev n x) (Ev.bind (rsame_evN n x sn) (Ev.neg (by simp) (Ev.bind (tsame_ev n n) (Ev.pos (eqN_refl n) (Ev.bind (rIsFormed_ev n sn) (Ev.pos h1 (Ev.bind (rIsFormed_ev x sx) (Ev.neg h2 (Ev.pos rfl (Ev.neg (by simp) (Ev.pos rfl hal))))))))))))))
 ·rw [if_neg (fun q => h1 q.1)] at hC; exact Ev.bind hn (Ev.bind hx (Ev.bind hC (Ev.bind (tsame_ev n x) (Ev.bind (rsame_evN n x sn) (Ev.neg (by simp) (Ev.bind (tsame_ev n n) (Ev.pos (eqN_refl n) (Ev.bind (rIsFormed_ev n sn) (Ev.neg h1 (Ev.pos rfl (Ev.neg (by simp) (Ev.pos rfl hal))))))))))))
end Go.Proofs.Ytnafnieocpkkhaa.P
namespace Go.Proofs.Ytnafnieocpkkhaa.Pure
open Go Go.RowKit Go.Proofs.Ytnafnieocpkkhaa Go.Proofs.Ytnafnieocpkkhaa.P Go.Proofs.YtnafnieocpkkhaaW.PrintWords Go.Proofs.YtnafnieocpkkhaaW.PrintLast Go.Proofs.YtnafnieocpkkhaaW.PrintMore
theorem TreeSame (W : World) (a0 : Nd) (A0 : Option Addr) (c0 : Nat) (a1 : Nd) (A1 : Option Addr) (c1 : Nat) (hr0 : Kd.C k26 W A0 a0.f2.length a0.f2) (hc0 : a0.f2.length ≤ c0) (hr1 : Kd.C k26 W A1 a1.f2.length a1.f2) (hc1 : a1.f2.length ≤ c1) :
  Calls Try.prog 5 #[.agg #[.int .i64 a0.f0, .int .i64 a0.f1.f0, .string a0.f1.f1, .slice A0 a0.f2.length c0], .agg #[.int .i64 a1.f0, .int .i64 a1.f1.f0, .string a1.f1.f1, .slice A1 a1.f2.length c1]] W fun e w' => e = .returned (.bool true) ∧ Below W.heap.size W w' := by
 obtain ⟨k, hk⟩ := Ev.rounds (lawSame_ev a0 a1); exact marginalialaw05_TreeSame.calls k a0.f0 a0.f1.f0 a0.f1.f1 A0 c0 a0.f2 a1.f0 a1.f1.f0 a1.f1.f1 A1 c1 a1.f2 true W hr0 hc0 hr1 hc1 hk
end Go.Proofs.Ytnafnieocpkkhaa.Pure

