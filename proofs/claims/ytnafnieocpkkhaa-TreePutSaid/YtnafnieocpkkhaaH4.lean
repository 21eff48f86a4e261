/- What the claim's row needs of the seat's texts, part 4: put together by a program of this session (declarations that no text of the claim names are left out). -/

import Derived.Test.YtnafnieocpkkhaaH3
namespace Go.Proofs.Ytnafnieocpkkhaa.P
open Go.RowKit Go.Proofs.YtnafnieocpkkhaaW.PrintWords Go.Proofs.YtnafnieocpkkhaaW.PrintLast Go.Proofs.YtnafnieocpkkhaaW.PrintMore
attribute [local go_sem] max2_int min2_int max_two min_two max_three min_three max_four min_four
set_option linter.unusedVariables false
set_option linter.unusedSimpArgs false

/-! ### marginaliaref05_Ints: function 23 -/
def marginaliaref05_Ints.l0 : Nat → List Int → List Int → Int → Option (Bool)
 | 0, _, _, _ => none
 | k + 1, x0, x1, x5 => if x5 < (x0.length : Int) then (if 0 ≤ x5 then (if x5 < (x1.length : Int) then (if (rd x0 x5) = (rd x1 x5) then (marginaliaref05_Ints.l0 k x0 x1 (wrap64 (x5 + 1))) else (some false)) else (none)) else (none)) else (some true)
def marginaliaref05_Ints.f (k : Nat) (l0 : List Int) (l1 : List Int) : Option (Bool) := if (l0.length : Int) = (l1.length : Int) then (marginaliaref05_Ints.l0 k l0 l1 0) else (some false)
set_option maxHeartbeats 8000000 in
set_option maxRecDepth 100000 in
theorem marginaliaref05_Ints.calls (k : Nat) (A0 : Option Addr) (c0 : Nat) (l0 : List Int) (A1 : Option Addr) (c1 : Nat) (l1 : List Int) (r : Bool) (w : World) (hr0 : Kd.C (Kd.int .i64) w A0 l0.length l0) (hc0 : l0.length ≤ c0) (hr1 : Kd.C (Kd.int .i64) w A1 l1.length l1) (hc1 : l1.length ≤ c1) (h : marginaliaref05_Ints.f k l0 l1 = some r) :
  Calls Try.prog 23 #[.slice A0 l0.length c0, .slice A1 l1.length c1] w fun e w' => e = .returned (.bool r) ∧ Drawn0 w w' := by
 have HR0 := Aside0.mk hr0; have HC0 := Aside0.mk hc0; clear hr0 hc0; have HR1 := Aside0.mk hr1; have HC1 := Aside0.mk hc1; clear hr1 hc1; have H : (if (l0.length : Int) = (l1.length : Int) then (marginaliaref05_Ints.l0 k l0 l1 0) else (some false)) = some r := h; clear h; by_cases c3 : (l0.length : Int) = (l1.length : Int)
 ·rw [if_pos c3] at H; have c3b0 : ((l0.length : Int) == (l1.length : Int)) = true := beq_iff_eq.mpr c3; have c3b1 : ((l0.length : Int) != (l1.length : Int)) = false := bne_eq_false_iff_eq.mpr c3
  have c3b2 : (l0.length == l1.length) = true := (by first | simpa using c3 | (simp at c3 ⊢; omega))
  clear c3; have H' := Aside0.mk H; clear H; go_enter Try.func23, Try.ntmps23; go_wp2
  repeat (go_quiet (fail); try go_wp2)
  go_loopg [5] k (fun kq v5 w' => ∃ (x5_1 : Int), v5 = .int .i64 x5_1 ∧ Aside0 (marginaliaref05_Ints.l0 kq l0 l1 x5_1 = some r) ∧ Aside0 (kq ≤ k) ∧ Drawn0 w w')
  case atStart => exact ⟨(0), zs, H', ⟨Nat.le_refl _⟩, zX⟩
  case round =>
   clear H'; obtain ⟨x5_1, rfl, HA, HK1, ⟨m1, rfl⟩⟩ := hrel
   cases gk with
   | zero => exact absurd HA.out (by simp [marginaliaref05_Ints.l0])
   | succ k1 =>
    have H := HA.out; clear HA; simp only [marginaliaref05_Ints.l0] at H; by_cases c4 : x5_1 < (l0.length : Int)
    ·rw [if_pos c4] at H; have c4b0 := decide_eq_true c4; clear c4; replace H := zi1 H; obtain ⟨c5b0, H⟩ := H; replace H := zi1 H; obtain ⟨c6b0, H⟩ := H; by_cases c7 : (rd l0 x5_1) = (rd l1 x5_1)
     ·rw [if_pos c7] at H; have c7b0 : ((rd l0 x5_1) == (rd l1 x5_1)) = true := beq_iff_eq.mpr c7; have c7b1 : ((rd l0 x5_1) != (rd l1 x5_1)) = false := bne_eq_false_iff_eq.mpr c7; clear c7; have H' := Aside0.mk H; clear H; have p230 : 0 ≤ (x5_1 : Int) := zt; have q230 : x5_1 < (l0.length : Int) := zt; obtain ⟨ad230, e230, hx230_0⟩ := Kd.at_int HR0.out x5_1 p230 q230
      cases e230
      replace p230 := eq_true p230; replace q230 := eq_true q230; have p231 : 0 ≤ (x5_1 : Int) := zt; have q231 : x5_1 < (l1.length : Int) := zt; obtain ⟨ad231, e231, hx231_0⟩ := Kd.at_int HR1.out x5_1 p231 q231
      cases e231
      replace p231 := eq_true p231; replace q231 := eq_true q231; go_wp2
      repeat (go_quiet (fail); try go_wp2)
      go_roundg k1
      case measure => have := HK1.out; omega
      case rel => exact ⟨(wrap64 (x5_1 + 1)), zs, H', zk, zX⟩
     ·rw [if_neg c7] at H; have c7b0 : ((rd l0 x5_1) == (rd l1 x5_1)) = false := beq_eq_false_iff_ne.mpr c7; have c7b1 : ((rd l0 x5_1) != (rd l1 x5_1)) = true := bne_iff_ne.mpr c7; obtain rfl := Option.some.inj H; have p230 : 0 ≤ (x5_1 : Int) := zt; have q230 : x5_1 < (l0.length : Int) := zt; obtain ⟨ad230, e230, hx230_0⟩ := Kd.at_int HR0.out x5_1 p230 q230
      cases e230
      replace p230 := eq_true p230; replace q230 := eq_true q230; have p231 : 0 ≤ (x5_1 : Int) := zt; have q231 : x5_1 < (l1.length : Int) := zt; obtain ⟨ad231, e231, hx231_0⟩ := Kd.at_int HR1.out x5_1 p231 q231
      cases e231
      replace p231 := eq_true p231; replace q231 := eq_true q231; go_wp2
      repeat (go_quiet (fail); try go_wp2)
      go_ret; exact ⟨zs, zX⟩
    ·rw [if_neg c4] at H; have c4b0 := decide_eq_false c4; clear c4; obtain rfl := Option.some.inj H; go_wp2
     repeat (go_quiet (fail); try go_wp2)
     go_ret; exact ⟨zs, zX⟩
 ·rw [if_neg c3] at H; have c3b0 : ((l0.length : Int) == (l1.length : Int)) = false := beq_eq_false_iff_ne.mpr c3; have c3b1 : ((l0.length : Int) != (l1.length : Int)) = true := bne_iff_ne.mpr c3
  have c3b2 : (l0.length == l1.length) = false := (by first | simpa using c3 | (simp at c3 ⊢; omega))
  obtain rfl := Option.some.inj H; go_enter Try.func23, Try.ntmps23; go_wp2
  repeat (go_quiet (fail); try go_wp2)
  go_ret; exact ⟨zs, zX⟩

end Go.Proofs.Ytnafnieocpkkhaa.P

set_option linter.unusedVariables false
set_option linter.unusedSimpArgs false
namespace Go.Proofs.Ytnafnieocpkkhaa.P
open Go Go.RowKit Go.Proofs.Ytnafnieocpkkhaa Go.Proofs.YtnafnieocpkkhaaW.PrintWords Go.Proofs.YtnafnieocpkkhaaW.PrintLast Go.Proofs.YtnafnieocpkkhaaW.PrintMore
theorem Nd.ext' {a b : Nd} (h0 : a.f0 = b.f0) (h1 : a.f1.f0 = b.f1.f0) (h2 : a.f1.f1 = b.f1.f1) (h3 : a.f2 = b.f2) : a = b := by
 obtain ⟨a0, ⟨a1, a2⟩, a3⟩ := a; obtain ⟨b0, ⟨b1, b2⟩, b3⟩ := b; simp only at h0 h1 h2 h3; subst h0 h1 h2 h3; rfl
theorem eqs_spec (m : Nat) : ∀ (l s : List Nd), (∀ x ∈ l, ∀ y, ∃ t, tree_Same.go m x y = some t ∧ (t = true ↔ x = y)) → l.length = s.length → ∃ t, tree_Same.eqs (tree_Same.go m) l s = some t ∧ (t = true ↔ l = s)
 | [], [], _, _ => ⟨true, rfl, by simp⟩
 | [], _ :: _, _, h => by simp at h
 | _ :: _, [], _, h => by simp at h
 | x :: r, y :: s, H, hl => by
  obtain ⟨t, h1, h2⟩ := H x (by simp) y; obtain ⟨u, h3, h4⟩ := eqs_spec m r s (fun z hz => H z (by simp [hz])) (by simpa using hl)
  cases t with
  | true =>
   refine ⟨u, by simp only [tree_Same.eqs, h1, Option.bind_some, if_true]; exact h3, ?_⟩; have := h2.1 rfl; rw [h4, this]
   simp
  | false =>
   refine ⟨false, by simp [tree_Same.eqs, h1], ?_⟩
   have h5 : ¬ x = y := fun e => by have := h2.2 e; cases this
   simp [h5]
theorem go_spec : ∀ (m : Nat) (a b : Nd), nd a ≤ m → ∃ t, tree_Same.go m a b = some t ∧ (t = true ↔ a = b)
 | 0, a, b, h => by have := nd_pos a; omega
 | m + 1, a, b, h => by
  have e := nd_eq a; simp only [tree_Same.go]; by_cases h0 : a.f0 = b.f0
  ·rw [if_pos h0]; by_cases h1 : (a.f1.f0 == b.f1.f0 && a.f1.f1.toList == b.f1.f1.toList) = true
   ·rw [if_pos h1]; simp only [Bool.and_eq_true, beq_iff_eq] at h1; by_cases h2 : a.f2.length = b.f2.length
    ·rw [if_pos h2]; obtain ⟨t, h3, h4⟩ := eqs_spec m a.f2 b.f2 (fun x hx y => go_spec m x y (by have := sum_mem (f := nd) hx; omega)) h2; refine ⟨t, h3, h4.trans ⟨fun e => Nd.ext' h0 h1.1 (bytes_toList h1.2) e, fun e => by rw [e]⟩⟩
    ·rw [if_neg h2]; exact ⟨false, rfl, by constructor <;> intro e; cases e; exact absurd (by rw [e]) h2⟩
   ·rw [if_neg h1]; exact ⟨false, rfl, by constructor <;> intro e; cases e; exact absurd (by rw [e]; simp) h1⟩
  ·rw [if_neg h0]; exact ⟨false, rfl, by constructor <;> intro e; cases e; exact absurd (by rw [e]) h0⟩
/-- The same? -/
def eqN (a b : Nd) : Bool := (tree_Same.go (nd a) a b).getD false
theorem eqN_iff (a b : Nd) : eqN a b = true ↔ a = b := by
 obtain ⟨t, h, h2⟩ := go_spec (nd a) a b (Nat.le_refl _); unfold eqN; rw [h]; exact h2
theorem eqN_refl (a : Nd) : eqN a a = true := (eqN_iff a a).2 rfl
theorem tsame_ev (a b : Nd) : Ev (fun k => tree_Same.f k a.f0 a.f1.f0 a.f1.f1 a.f2 b.f0 b.f1.f0 b.f1.f1 b.f2) (eqN a b) := by
 refine ⟨nd a, fun k hk => ?_⟩
 show tree_Same.go k _ _ = _
 rw [Nd.eta, Nd.eta]; obtain ⟨t, h, h2⟩ := go_spec k a b hk; rw [h]
 congr 1
 rw [Bool.eq_iff_iff, h2, eqN_iff]
/-! ### where alone -/
/-- How many kids differ, and which one differs last. -/
def dif : List Nd → List Nd → Nat → Nat → Nat → Nat × Nat
 | x :: r, y :: s, i, m, a => if eqN x y = true then dif r s (i + 1) m a else dif r s (i + 1) (m + 1) i
 | _, _, _, m, a => (m, a)
theorem dif_le : ∀ (l s : List Nd) (i m a : Nat), m ≤ (dif l s i m a).1 ∧ (dif l s i m a).1 ≤ m + l.length
 | [], _, i, m, a => ⟨by simp [dif], by simp [dif]⟩
 | _ :: _, [], i, m, a => ⟨by simp [dif], by simp [dif]⟩
 | x :: r, y :: s, i, m, a => by
  simp only [dif]
  split
  ·have := dif_le r s (i + 1) m a; simp only [List.length_cons]
   omega
  ·have := dif_le r s (i + 1) (m + 1) i; simp only [List.length_cons]
   omega
theorem dif_zero : ∀ (l s : List Nd) (i m a : Nat), l.length = s.length → (dif l s i m a).1 = m → l = s ∧ (dif l s i m a).2 = a
 | [], [], i, m, a, _, _ => ⟨rfl, rfl⟩
 | [], _ :: _, i, m, a, h, _ => by simp at h
 | _ :: _, [], i, m, a, h, _ => by simp at h
 | x :: r, y :: s, i, m, a, hl, h => by
  simp only [dif] at h ⊢; by_cases e : eqN x y = true
  ·rw [if_pos e] at h ⊢; obtain ⟨h1, h2⟩ := dif_zero r s (i + 1) m a (by simpa using hl) h; exact ⟨by rw [(eqN_iff x y).1 e, h1], h2⟩
  ·rw [if_neg e] at h; have := (dif_le r s (i + 1) (m + 1) i).1
   omega
/-- Just one kid differs. -/
theorem dif_one : ∀ (l s : List Nd) (i m a : Nat), l.length = s.length → (dif l s i m a).1 = m + 1 → ∃ j x y, (dif l s i m a).2 = i + j ∧ l[j]? = some x ∧ s[j]? = some y ∧ x ≠ y ∧ s = l.set j y
 | [], [], i, m, a, _, h => by simp [dif] at h
 | [], _ :: _, i, m, a, h, _ => by simp at h
 | _ :: _, [], i, m, a, h, _ => by simp at h
 | x :: r, y :: s, i, m, a, hl, h => by
  simp only [dif] at h ⊢; by_cases e : eqN x y = true
  ·rw [if_pos e] at h ⊢; obtain ⟨j, u, v, h1, h2, h3, h4, h5⟩ := dif_one r s (i + 1) m a (by simpa using hl) h; exact ⟨j + 1, u, v, by omega, by simpa using h2, by simpa using h3, h4, by rw [List.set_cons_succ, ← h5, (eqN_iff x y).1 e]⟩
  ·rw [if_neg e] at h ⊢; obtain ⟨h1, h2⟩ := dif_zero r s (i + 1) (m + 1) i (by simpa using hl) h; exact ⟨0, x, y, by omega, rfl, rfl, fun q => e ((eqN_iff x y).2 q), by rw [List.set_cons_zero, h1]⟩
/-- The position of what alone differs: so many steps. -/
def chg : Nat → Nd → Nd → List Int
 | 0, _, _ => []
 | m + 1, a, b => if a.f0 = b.f0 ∧ ¬ a.f0 = 1 ∧ a.f2.length = b.f2.length ∧ (dif a.f2 b.f2 0 0 0).1 = 1 then (((dif a.f2 b.f2 0 0 0).2 : Nat) : Int) :: chg m (a.f2.getD (dif a.f2 b.f2 0 0 0).2 a) (b.f2.getD (dif a.f2 b.f2 0 0 0).2 b) else []
theorem tdif_loop (acc : List Int) (a b : Nd) (hl : a.f2.length = b.f2.length) (hz : a.f2.length < 1000000) {R : List Int × Bool × Int} (M A : Nat)
  (H : Ev (fun k => tree_Changed.l1 k acc (A : Int) (M : Int) a.f2 (a.f2.length : Int) (a.f2.length : Int) a.f0 a.f1.f0 a.f1.f1 a.f2 b.f0 b.f1.f0 b.f1.f1 b.f2) R) :
  ∀ (r s : List Nd) (i m q : Nat), a.f2.drop i = r → b.f2.drop i = s → i ≤ a.f2.length → m ≤ i → dif r s i m q = (M, A) → Ev (fun k => tree_Changed.l1 k acc (q : Int) (m : Int) a.f2 (a.f2.length : Int) (i : Int) a.f0 a.f1.f0 a.f1.f1 a.f2 b.f0 b.f1.f0 b.f1.f1 b.f2) R
 | [], s, i, m, q, h1, h2, hi, hm, hd => by
  have := le_of_nil h1
  have e : i = a.f2.length := (by omega)
  simp only [dif, Prod.mk.injEq] at hd; obtain ⟨rfl, rfl⟩ := hd; rw [e]; exact H
 | x :: r, [], i, m, q, h1, h2, hi, hm, hd => by
  have := le_of_nil h2; have := lt_of_drop h1
  omega
 | x :: r, y :: s, i, m, q, h1, h2, hi, hm, hd => by
  have l1 := lt_of_drop h1; have l2 := lt_of_drop h2
  have IH := fun m q => tdif_loop acc a b hl hz M A H r s (i + 1) m q (drop_next h1) (drop_next h2) (by omega)
  simp only [dif] at hd; refine Ev.shift ?_; simp only [tree_Changed.l1]; rw [rd_nd h1, rd_nd h2, w64 (n := (i : Int) + 1) (by omega) (by omega), w64 (n := (m : Int) + 1) (by omega) (by omega)]; refine Ev.pos (by omega) (Ev.pos (by omega) (Ev.pos (by omega) (Ev.pos (by omega) (Ev.bind (tsame_ev x y) ?_)))); by_cases e : eqN x y = true
  ·rw [if_pos e] at hd; exact Ev.pos e (by exact_mod_cast IH m q (by omega) hd)
  ·rw [if_neg e] at hd; exact Ev.neg e (by exact_mod_cast IH (m + 1) i (by omega) hd)
theorem getD_of {l : List Nd} {i : Nat} {x d : Nd} (h : l[i]? = some x) : l.getD i d = x := by simp [List.getD, h]
theorem tchg_ev : ∀ (m : Nat) (a b : Nd) (acc : List Int), nd a ≤ m → sm a → acc.length + m ≤ 10000000 →
  Ev (fun k => tree_Changed.l0 k acc a.f0 a.f1.f0 a.f1.f1 a.f2 b.f0 b.f1.f0 b.f1.f1 b.f2) (acc ++ chg m a b, true, 0)
 | 0, a, b, acc, h, _, _ => by have := nd_pos a; omega
 | m + 1, a, b, acc, h, hs, hacc => by
  have hz := hs.len; have e := nd_eq a; refine Ev.shift ?_; simp only [tree_Changed.l0, chg]
  have stop : ¬ (a.f0 = b.f0 ∧ ¬ a.f0 = 1 ∧ a.f2.length = b.f2.length) → Ev (fun k => tree_Changed.j2 k acc false a.f0 a.f1.f0 a.f1.f1 a.f2 b.f0 b.f1.f0 b.f1.f1 b.f2) (acc ++ (if a.f0 = b.f0 ∧ ¬ a.f0 = 1 ∧ a.f2.length = b.f2.length ∧ (dif a.f2 b.f2 0 0 0).1 = 1 then (((dif a.f2 b.f2 0 0 0).2 : Nat) : Int) :: chg m (a.f2.getD (dif a.f2 b.f2 0 0 0).2 a) (b.f2.getD (dif a.f2 b.f2 0 0 0).2 b) else []), true, 0) := by
   intro hn; rw [if_neg (fun q => hn ⟨q.1, q.2.1, q.2.2.1⟩), List.append_nil]; refine Ev.shift ?_; simp only [tree_Changed.j2]; exact Ev.neg (by simp) (Ev.now _)
  by_cases h0 : a.f0 = b.f0
  ·refine Ev.pos h0 ?_; by_cases h1 : a.f0 = 1
   ·exact Ev.pos h1 (stop (fun q => q.2.1 h1))
   ·refine Ev.neg h1 ?_; by_cases h2 : a.f2.length = b.f2.length
    ·have e2 : ((a.f2.length : Int) == (b.f2.length : Int)) = true := (by rw [h2]; simp)
     rw [e2]; clear stop; refine Ev.shift ?_; simp only [tree_Changed.j2]; refine Ev.pos (by simp) ?_; refine tdif_loop acc a b h2 hz (dif a.f2 b.f2 0 0 0).1 (dif a.f2 b.f2 0 0 0).2 ?_ a.f2 b.f2 0 0 0 rfl rfl (Nat.zero_le _) (Nat.le_refl _) rfl; refine Ev.shift ?_; simp only [tree_Changed.l1]; refine Ev.neg (by omega) ?_; by_cases h3 : (dif a.f2 b.f2 0 0 0).1 = 1
     ·rw [if_pos ⟨h0, h1, h2, h3⟩]; obtain ⟨j, x, y, h4, h5, h6, h7, h8⟩ := dif_one a.f2 b.f2 0 0 0 h2 (by omega); have hj : j < a.f2.length := (List.getElem?_eq_some_iff.1 h5).1; have hx := List.mem_of_getElem? h5; rw [h4, h3, Nat.zero_add, rd_at h5, rd_at h6, getD_of h5, getD_of h6]; have IH := tchg_ev m x y (acc ++ [(j : Int)]) (by have := sum_mem (f := nd) hx; omega) (hs.kid hx) (by simp; omega); rw [List.append_assoc] at IH; exact Ev.pos (by simp) (Ev.pos (by omega) (Ev.pos (by omega) (Ev.pos (by omega) (Ev.pos (by omega) IH))))
     ·rw [if_neg (fun q => h3 q.2.2.2), List.append_nil]; exact Ev.neg (by omega) (Ev.now _)
    ·have e2 : ((a.f2.length : Int) == (b.f2.length : Int)) = false := (by simp; omega)
     rw [e2]; exact stop (fun q => h2 q.2.2)
  ·exact Ev.neg h0 (stop (fun q => h0 q.1))
theorem Changed_ev (a b : Nd) (ha : sm a) (hb : sm b) : Ev (fun k => tree_Changed.f k a.f0 a.f1.f0 a.f1.f1 a.f2 b.f0 b.f1.f0 b.f1.f1 b.f2)
  (if fmd a = true ∧ fmd b = true then (if eqN a b = true then ([], false, 0) else (chg (nd a) a b, true, 0)) else ([], false, 4)) := by
 unfold tree_Changed.f
 have j0 : ∀ c : Bool, Ev (fun k => tree_Changed.j0 k c a.f0 a.f1.f0 a.f1.f1 a.f2 b.f0 b.f1.f0 b.f1.f1 b.f2) (if c = true then ([], false, 4) else if eqN a b = true then ([], false, 0) else (chg (nd a) a b, true, 0)) := by
  intro c; refine Ev.shift ?_; simp only [tree_Changed.j0]; by_cases hc : c = true
  ·rw [if_pos hc]; exact Ev.pos hc (Ev.now _)
  ·rw [if_neg hc]; refine Ev.neg hc (Ev.bind (tsame_ev a b) ?_); by_cases he : eqN a b = true
   ·rw [if_pos he]; exact Ev.pos he (Ev.now _)
   ·rw [if_neg he]; have := tchg_ev (nd a) a b [] (Nat.le_refl _) ha (by have := ha.2; simp; omega); exact Ev.neg he this
 refine Ev.bind (IsFormed_ev a ha) ?_; by_cases h1 : fmd a = true
 ·refine Ev.pos h1 (Ev.bind (IsFormed_ev b hb) ?_); by_cases h2 : fmd b = true
  ·rw [if_pos ⟨h1, h2⟩, h2]; exact j0 false
  ·rw [if_neg (fun q => h2 q.2)]; rw [Bool.not_eq_true] at h2; rw [h2]; exact j0 true
 ·rw [if_neg (fun q => h1 q.1)]; exact Ev.neg h1 (j0 true)
theorem chg_len : ∀ (m : Nat) (a b : Nd), (chg m a b).length ≤ m
 | 0, a, b => by simp [chg]
 | m + 1, a, b => by
  simp only [chg]
  split
  ·have := chg_len m (a.f2.getD (dif a.f2 b.f2 0 0 0).2 a) (b.f2.getD (dif a.f2 b.f2 0 0 0).2 b); simp only [List.length_cons]
   omega
  ·simp
/-- What alone differs, put into the old tree, makes the new one. -/
theorem chg_spec : ∀ (m : Nat) (a b : Nd), nd a ≤ m → isF a → isF b → ∃ x y o o', atp (chg m a b) a = some (x, o) ∧ atp (chg m a b) b = some (y, o') ∧ putp (chg m a b) a y = b
 | 0, a, b, h, _, _ => by have := nd_pos a; omega
 | m + 1, a, b, h, fa, fb => by
  have e := nd_eq a; simp only [chg]; by_cases hc : a.f0 = b.f0 ∧ ¬ a.f0 = 1 ∧ a.f2.length = b.f2.length ∧ (dif a.f2 b.f2 0 0 0).1 = 1
  ·rw [if_pos hc]; obtain ⟨j, x, y, h4, h5, h6, h7, h8⟩ := dif_one a.f2 b.f2 0 0 0 hc.2.2.1 (by omega); have hx := List.mem_of_getElem? h5; have hy := List.mem_of_getElem? h6; rw [h4, Nat.zero_add, getD_of h5, getD_of h6]; obtain ⟨u, v, o, o', q1, q2, q3⟩ := chg_spec m x y (by have := sum_mem (f := nd) hx; omega) (fa.kid hx) (fb.kid hy); refine ⟨u, v, wds (a.f2.take j) + o, wds (b.f2.take j) + o', ?_, ?_, ?_⟩
   ·rw [atp, if_pos (by omega), Int.toNat_natCast, h5, Option.bind_some, q1]; rfl
   ·rw [atp, if_pos (by omega), Int.toNat_natCast, h6, Option.bind_some, q2]; rfl
   ·have na := fa.node hc.2.1; have nb := fb.node (by rw [← hc.1]; exact hc.2.1)
    have hb : ∀ z : ByteArray, z.size = 0 → z = ⟨#[]⟩ := fun z hz => by
     cases z with
     | mk d => simp [ByteArray.size] at hz; rw [hz]
    rw [putp, Int.toNat_natCast, h5]; simp only; rw [q3, ← h8]; refine Nd.ext' hc.1 (by show a.f1.f0 = b.f1.f0; rw [na.2, nb.2]) (by show a.f1.f1 = b.f1.f1; rw [hb _ na.1, hb _ nb.1]) rfl
  ·rw [if_neg hc]; exact ⟨a, b, 0, 0, rfl, rfl, rfl⟩
theorem set_same {l : List Nd} {i : Nat} {x : Nd} (h : l[i]? = some x) : l.set i x = l := by
 obtain ⟨h1, h2⟩ := List.getElem?_eq_some_iff.1 h; rw [← h2]; exact List.set_getElem_self h1
theorem dif_set : ∀ (l : List Nd) (j i m a : Nat) (x y : Nd), l[j]? = some x → x ≠ y → dif l (l.set j y) i m a = (m + 1, i + j)
 | [], j, i, m, a, x, y, h, _ => by simp at h
 | z :: r, 0, i, m, a, x, y, h, hn => by
  simp only [List.getElem?_cons_zero, Option.some.injEq] at h; subst h; rw [List.set_cons_zero, dif, if_neg (fun q => hn ((eqN_iff _ _).1 q))]
  have : ∀ (s : List Nd) (i m a : Nat), dif s s i m a = (m, a) := by
   intro s
   induction s with
   | nil => intro i m a; rfl
   | cons u s ih => intro i m a; rw [dif, if_pos (eqN_refl u)]; exact ih _ _ _
  rw [this]; rfl
 | z :: r, j + 1, i, m, a, x, y, h, hn => by
  rw [List.set_cons_succ, dif, if_pos (eqN_refl z), dif_set r j (i + 1) m a x y (by simpa using h) hn]
  congr 1
  omega
/-- What alone differs lies at least as deep as what was put. -/
theorem chg_put (b : Nd) : ∀ (m : Nat) (p : List Int) (a : Nd), nd a ≤ m → isF a → (atp p a).isSome = true → putp p a b ≠ a → p.length ≤ (chg m a (putp p a b)).length
 | 0, p, a, h, _, _, _ => by have := nd_pos a; omega
 | m + 1, [], a, h, _, _, _ => by simp
 | m + 1, i :: p, a, h, fa, hs, hn => by
  have e := nd_eq a; rw [atp] at hs; by_cases h0 : 0 ≤ i
  ·rw [if_pos h0] at hs
   cases h5 : a.f2[i.toNat]? with
   | none => rw [h5] at hs; cases hs
   | some x =>
    rw [h5, Option.bind_some, Option.isSome_map] at hs; have hx := List.mem_of_getElem? h5; rw [putp, h5] at hn ⊢; simp only at hn ⊢
    have hne : x ≠ putp p x b := by
     intro q
     apply hn
     refine Nd.ext' rfl rfl rfl ?_
     show a.f2.set i.toNat (putp p x b) = a.f2
     rw [← q]; exact set_same h5
    have hd := dif_set a.f2 i.toNat 0 0 0 x (putp p x b) h5 hne
    have h1 : ¬ a.f0 = 1 := fun q => by rw [(fa.leaf q).1] at h5; simp at h5
    have hset : (a.f2.set i.toNat (putp p x b))[i.toNat]? = some (putp p x b) := by
     rw [List.getElem?_set_self (List.getElem?_eq_some_iff.1 h5).1]
    have IH := chg_put b m p x (by have := sum_mem (f := nd) hx; omega) (fa.kid hx) hs (fun q => hne q.symm); simp only [chg]; rw [if_pos ⟨by simp, h1, by simp, by rw [hd]⟩, hd]; simp only [Nat.zero_add]; rw [getD_of h5, getD_of hset]; simp only [List.length_cons]
    omega
  ·rw [if_neg h0] at hs
   cases hs
/-- What is at a position of a formed tree is formed. -/
theorem fo_mono : ∀ (m : Nat) (n : Nd), fo m n = true → fo (m + 1) n = true
 | 0, n, h => by simp [fo] at h
 | m + 1, n, h => by
  rw [fo] at h ⊢; by_cases h1 : n.f0 = 1
  ·rw [if_pos h1] at h ⊢; exact h
  ·rw [if_neg h1] at h ⊢; simp only [Bool.and_eq_true, List.all_eq_true] at h ⊢; exact ⟨h.1, fun x hx => fo_mono m x (h.2 x hx)⟩
theorem fmd_at : ∀ {p : List Int} {n x : Nd} {o : Nat}, fmd n = true → atp p n = some (x, o) → fmd x = true := by
 intro p
 induction p with
 | nil =>
  intro n x o h hx; simp only [atp, Option.some.injEq, Prod.mk.injEq] at hx; obtain ⟨rfl, rfl⟩ := hx; exact h
 | cons i p ih =>
  intro n x o h hx; rw [atp] at hx; by_cases h0 : 0 ≤ i
  ·rw [if_pos h0] at hx
   cases h5 : n.f2[i.toNat]? with
   | none => rw [h5] at hx; cases hx
   | some y =>
    rw [h5, Option.bind_some] at hx
    cases h6 : atp p y with
    | none => rw [h6] at hx; cases hx
    | some z =>
     rw [h6] at hx; simp only [Option.map_some, Option.some.injEq, Prod.mk.injEq] at hx; obtain ⟨rfl, rfl⟩ := hx; have hy := List.mem_of_getElem? h5; refine ih (n := y) (o := z.2) ?_ h6; unfold fmd at h ⊢; simp only [Bool.and_eq_true, decide_eq_true_eq] at h ⊢; have f := isF.leaf ⟨1001, h.1⟩
     have h1 : ¬ n.f0 = 1 := fun q => by rw [(f q).1] at h5; simp at h5
     have hf := h.1; rw [fo, if_neg h1] at hf; simp only [Bool.and_eq_true, List.all_eq_true] at hf; refine ⟨fo_mono _ _ (hf.2 y hy), ?_⟩; have l1 := lv_eq n; rw [if_neg h1] at l1; have := sum_mem (f := lv) hy
     omega
  ·rw [if_neg h0] at hx
   cases hx
theorem putp_at : ∀ {p : List Int} {n x : Nd} {o : Nat}, atp p n = some (x, o) → putp p n x = n := by
 intro p
 induction p with
 | nil =>
  intro n x o hx; simp only [atp, Option.some.injEq, Prod.mk.injEq] at hx; obtain ⟨rfl, rfl⟩ := hx; rfl
 | cons i p ih =>
  intro n x o hx; rw [atp] at hx; by_cases h0 : 0 ≤ i
  ·rw [if_pos h0] at hx
   cases h5 : n.f2[i.toNat]? with
   | none => rw [h5] at hx; cases hx
   | some y =>
    rw [h5, Option.bind_some] at hx
    cases h6 : atp p y with
    | none => rw [h6] at hx; cases hx
    | some z =>
     rw [h6] at hx; simp only [Option.map_some, Option.some.injEq, Prod.mk.injEq] at hx; obtain ⟨rfl, rfl⟩ := hx; rw [putp, h5]; simp only; rw [ih h6]; refine Nd.ext' rfl rfl rfl (set_same h5)
  ·rw [if_neg h0] at hx
   cases hx
theorem at_putp (b : Nd) : ∀ {p : List Int} {n x : Nd} {o : Nat}, atp p n = some (x, o) → ∃ o', atp p (putp p n b) = some (b, o') := by
 intro p
 induction p with
 | nil => intro n x o hx; exact ⟨0, rfl⟩
 | cons i p ih =>
  intro n x o hx; rw [atp] at hx; by_cases h0 : 0 ≤ i
  ·rw [if_pos h0] at hx
   cases h5 : n.f2[i.toNat]? with
   | none => rw [h5] at hx; cases hx
   | some y =>
    rw [h5, Option.bind_some] at hx
    cases h6 : atp p y with
    | none => rw [h6] at hx; cases hx
    | some z =>
     obtain ⟨o', q⟩ := ih (n := y) (x := z.1) (o := z.2) h6; rw [putp, h5]; simp only; rw [atp, if_pos h0, List.getElem?_set_self (List.getElem?_eq_some_iff.1 h5).1, Option.bind_some, q]; exact ⟨_, rfl⟩
  ·rw [if_neg h0] at hx
   cases hx
end Go.Proofs.Ytnafnieocpkkhaa.P

set_option linter.unusedVariables false
set_option linter.unusedSimpArgs false
namespace Go.Proofs.Ytnafnieocpkkhaa.P
open Go Go.RowKit Go.Proofs.Ytnafnieocpkkhaa Go.Proofs.YtnafnieocpkkhaaW.PrintWords Go.Proofs.YtnafnieocpkkhaaW.PrintLast Go.Proofs.YtnafnieocpkkhaaW.PrintMore
theorem u64_wrap (n : Int) : IntKind.u64.wrap n = n % 18446744073709551616 := by
 simp [IntKind.wrap, IntKind.signed, IntKind.bits]
theorem position_loop (l : List Int) (hl : l.length ≤ 1000) : ∀ (r i : Nat) (acc : List Int) (n : Nd), i + r = l.length → sm n → acc.length ≤ i →
  ∃ p, Ev (fun k => marginalialaw05_position.l0 k l acc (i : Int) n.f0 n.f1.f0 n.f1.f1 n.f2) (acc ++ p) ∧ (atp p n).isSome = true ∧ p.length ≤ r
 | 0, i, acc, n, h, hs, ha => by
  refine ⟨[], ?_, rfl, by simp⟩; rw [List.append_nil]; refine Ev.shift ?_; simp only [marginalialaw05_position.l0]; exact Ev.neg (by omega) (Ev.now _)
 | r + 1, i, acc, n, h, hs, ha => by
  have hz := hs.len; by_cases h0 : n.f2.length = 0
  ·refine ⟨[], ?_, rfl, by simp⟩; rw [List.append_nil]; refine Ev.shift ?_; simp only [marginalialaw05_position.l0]; exact Ev.pos (by omega) (Ev.neg (by omega) (Ev.now _))
  ·have e1 : IntKind.u64.wrap (n.f2.length : Int) = (n.f2.length : Int) := (by rw [u64_wrap]; omega)
   obtain ⟨z, hz1⟩ : ∃ z, z = Int.tmod (IntKind.u64.wrap (rd l (i : Int))) (n.f2.length : Int) := ⟨_, rfl⟩
   have hz2 : 0 ≤ z ∧ z < (n.f2.length : Int) := by
    have h1 : 0 ≤ IntKind.u64.wrap (rd l (i : Int)) := (by rw [u64_wrap]; omega)
    rw [Int.tmod_eq_emod_of_nonneg h1] at hz1; have h2 := Int.emod_nonneg (IntKind.u64.wrap (rd l (i : Int))) (show (n.f2.length : Int) ≠ 0 by omega); have h3 := Int.emod_lt_of_pos (IntKind.u64.wrap (rd l (i : Int))) (show 0 < (n.f2.length : Int) by omega)
    omega
   obtain ⟨j, rfl⟩ : ∃ j : Nat, z = (j : Int) := ⟨z.toNat, by omega⟩
   obtain ⟨x, hx⟩ : ∃ x, n.f2[j]? = some x := ⟨_, List.getElem?_eq_getElem (by omega)⟩
   obtain ⟨p, h1, h2, h3⟩ := position_loop l hl r (i + 1) (acc ++ [(j : Int)]) x (by omega) (hs.kid (List.mem_of_getElem? hx)) (by simp; omega); refine ⟨(j : Int) :: p, ?_, ?_, by simp; omega⟩
   ·refine Ev.shift ?_; simp only [marginalialaw05_position.l0]; rw [e1, ← hz1, w64 (n := (j : Int)) (by omega) (by omega), w64 (n := (i : Int) + 1) (by omega) (by omega), rd_at hx]; rw [List.append_assoc] at h1; exact Ev.pos (by omega) (Ev.pos (by omega) (Ev.pos (by omega) (Ev.neg (by omega) (Ev.pos (by omega) (Ev.pos (by omega) (Ev.pos (by omega) (by exact_mod_cast h1)))))))
   ·rw [atp, if_pos (by omega), Int.toNat_natCast, hx, Option.bind_some, Option.isSome_map]; exact h2
theorem position_ev (n : Nd) (l : List Int) (hs : sm n) (hl : l.length ≤ 1000) : ∃ p, Ev (fun k => marginalialaw05_position.f k n.f0 n.f1.f0 n.f1.f1 n.f2 l) p ∧ (atp p n).isSome = true ∧ p.length ≤ 1000 := by
 obtain ⟨p, h1, h2, h3⟩ := position_loop l hl l.length 0 [] n (by omega) hs (Nat.le_refl _); exact ⟨p, h1, h2, by omega⟩
end Go.Proofs.Ytnafnieocpkkhaa.P

set_option linter.unusedVariables false
namespace Go.Proofs.Ytnafnieocpkkhaa
open Go Go.RowKit Go.Proofs.YtnafnieocpkkhaaW.PrintWords Go.Proofs.YtnafnieocpkkhaaW.PrintLast Go.Proofs.YtnafnieocpkkhaaW.PrintMore
theorem zF4 {α : Type} {d : Kd α} {e base : Nat} {w : World} {ok : Nat → Prop} {v : Value} {xs : List α} (g : Nat) {v0 v1 v2 v3 : Value} (h : Kd.R d e w base ok v xs) (hok : ∀ k, ok k → k ≠ g) :
  Kd.R d e ((((w.setCell ⟨g, 0, none⟩ v0).setCell ⟨g, 1, none⟩ v1).setCell ⟨g, 2, none⟩ v2).setCell ⟨g, 3, none⟩ v3) base ok v xs :=
 Kd.R_far (p := ⟨g, 3, none⟩) (Kd.R_far (p := ⟨g, 2, none⟩) (Kd.R_far (p := ⟨g, 1, none⟩) (Kd.R_far (p := ⟨g, 0, none⟩) h hok v0) hok v1) hok v2) hok v3
end Go.Proofs.Ytnafnieocpkkhaa

namespace Go.Proofs.Ytnafnieocpkkhaa.P
open Go.RowKit Go.Proofs.YtnafnieocpkkhaaW.PrintWords Go.Proofs.YtnafnieocpkkhaaW.PrintLast Go.Proofs.YtnafnieocpkkhaaW.PrintMore
attribute [local go_sem] max2_int min2_int max_two min_two max_three min_three max_four min_four
set_option linter.unusedVariables false
set_option linter.unusedSimpArgs false

def tree_All.kids (g : S26 → List Int → List (List Int) → Option (List (List Int))) : List (S26) → Nat → List Int → List (List Int) → Option (List (List Int))
 | [], _, _, out => some out
 | x :: r, i, here, out => (g x (here ++ [(i : Int)]) out).bind fun o => tree_All.kids g r (i + 1) here o
def tree_All.go (kind : Int) : Nat → S26 → List Int → List (List Int) → Option (List (List Int))
 | 0, _, _, _ => none
 | m + 1, n, here, out => if here.length < 1000000 then (if out.length < 1000000 then tree_All.kids (tree_All.go kind m) n.f2 0 here (if n.f0 = kind then out ++ [here] else out) else none) else none
def tree_All.f (k : Nat) (a0_0 : Int) (a0_1 : Int) (a0_2 : ByteArray) (l0_3 : List (S26)) (a1 : Int) : Option (List (List Int) × Int) :=
 (tree_IsFormed.f k a0_0 a0_1 a0_2 l0_3).bind fun b => if b = true then (tree_All.go a1 k ⟨a0_0, ⟨a0_1, a0_2⟩, l0_3⟩ [] []).bind fun l => some (l, 0) else some ([], 4)
abbrev tree_All.RI (w : World) (base : Nat) (v : Value) (xs : List Int) : Prop := Kd.R (Kd.int .i64) 3 w base (fun _ => True) v xs
abbrev tree_All.RR (w : World) (base : Nat) (v : Value) (xs : List (List Int)) : Prop := Kd.R (Kd.slice 3 (Kd.int .i64)) 30 w base (fun _ => True) v xs
/-- What may have changed: block g, rows of []int's, and what is new. -/
def tree_All.Fr (g : Nat) (w w' : World) : Prop := w.heap.size ≤ w'.heap.size ∧ ∀ k, k < w.heap.size → k ≠ g → (∀ cs, w.heap[k]? ≠ some (.cells cs 30 (0, 0))) → w'.heap[k]? = w.heap[k]?
theorem tree_All.Fr.trans {g : Nat} {w w1 w2 : World} (h : tree_All.Fr g w w1) (h2 : tree_All.Fr g w1 w2) : tree_All.Fr g w w2 :=
 ⟨Nat.le_trans h.1 h2.1, fun k hk hg ht => by
  have e := h.2 k hk hg ht
  exact (h2.2 k (Nat.lt_of_lt_of_le hk h.1) hg (fun cs hc => ht cs (by rw [← e]; exact hc))).trans e⟩
theorem tree_All.Fr.below {g : Nat} {w w1 : World} (h : Below w.heap.size w w1) : tree_All.Fr g w w1 := ⟨h.size, fun k hk _ _ => h.block k hk⟩
theorem tree_All.Fr.blk {g b : Nat} {w w1 : World} {cs : Array Value} {t : Nat} {fz : Nat × Nat} (h : tree_All.Fr g w w1) (hb : w.heap[b]? = some (.cells cs t fz)) (ht : t ≠ 30) (hg : b ≠ g) : w1.heap[b]? = some (.cells cs t fz) :=
 (h.2 b (blk_lt hb) hg (fun cs' hc => by rw [hb] at hc; injection hc with hc; injection hc with _ h2; exact ht h2)).trans hb
theorem tree_All.Fr.grown {g : Nat} {w w1 : World} {base : Nat} {v : Value} {xs : List (List Int)} (hr : tree_All.RR w base v xs) (h : w.grownBy w1 v.ownBlock) : tree_All.Fr g w w1 :=
 ⟨h.size, fun k hk _ ht => h.block k hk (fun e => by
  obtain ⟨inner, ho⟩ := Kd.R_own hr; obtain ⟨cells, hc⟩ := own_typed ho k e.symm
  exact ht cells hc)⟩
theorem tree_All.Fr.set {g : Nat} {w w1 : World} (h : tree_All.Fr g w w1) (j : Nat) (u : Value) : tree_All.Fr g w (w1.setCell ⟨g, j, none⟩ u) :=
 ⟨by simpa [World.setCell] using h.1, fun k hk hg ht => (Below.heap_setCell w1 ⟨g, j, none⟩ u k hg).trans (h.2 k hk hg ht)⟩
/-- A row of ints stays. -/
theorem tree_All.RI.fr {g base : Nat} {w w1 : World} {v : Value} {xs : List Int} {cs : Array Value} (hr : tree_All.RI w base v xs) (h : tree_All.Fr g w w1) (hg : w.heap[g]? = some (.cells cs 35 (0, 0))) : tree_All.RI w1 base v xs :=
 Kd.R_mono (Kd.R_step (Kd.R_bound hr) (fun k hk hlt => by
  obtain ⟨_, _, _, q, hq, cells, hc⟩ := hk; have hq3 : q = 3 := List.mem_singleton.1 hq; subst hq3; refine h.2 k hlt (fun e => ?_) (fun cs' hc' => ?_)
  ·subst e; rw [hc] at hg; injection hg with hg; injection hg with _ h2; exact absurd h2 (by decide)
  ·rw [hc] at hc'; injection hc' with hc'; injection hc' with _ h2; exact absurd h2 (by decide))) (fun _ hk => hk.1)
theorem tree_All.infoInt : (Try.prog.info? 3).map (fun i => (i.zero, i.size, i.bytes)) = some (some (.int .i64 0), 1, 8) := by kernel_rfl
theorem tree_All.infoRow : (Try.prog.info? 30).map (fun i => (i.zero, i.size, i.bytes)) = some (some (.slice none 0 0), 1, 24) := by kernel_rfl
/-- slices.Clone of a row of ints of the call's own. -/
theorem tree_All.clone (w : World) (base : Nat) (v : Value) (xs : List Int) (hl : xs.length ≤ 1000000) (h : tree_All.RI w base v xs) :
  Calls Try.prog 57 #[v] w fun e w' => ∃ v', e = .returned v' ∧ tree_All.RI w' w.heap.size v' xs ∧ Below w.heap.size w w' := by
 obtain ⟨A, c, rfl, hc, hC⟩ := Kd.R_reads h
 cases A with
 | none =>
  have h0 : xs = [] := by
   rcases Nat.eq_zero_or_pos xs.length with h0 | h0
   ·exact List.length_eq_zero_iff.mp h0
   ·obtain ⟨ad, e, _⟩ := Kd.at_int hC 0 (by omega) (by omega)
    cases e
  subst h0; refine (Try.slices_Clone_int_nil _ _ w).mono ?_; rintro e w' ⟨rfl, rfl⟩; exact ⟨_, rfl, Kd.R_nil _ _ _ _ _, Below.refl _ _⟩
 | some ad =>
  by_cases h0 : xs.length = 0
  ·have h1 := List.length_eq_zero_iff.mp h0; subst h1; refine (Try.slices_Clone_int_zero ad c w).mono ?_; rintro e w' ⟨v', rfl, ho, _, hb⟩; exact ⟨_, rfl, Kd.R_of_own (by simpa [encs] using ho) (fun _ _ => trivial), hb⟩
  ·obtain ⟨g, rfl⟩ := Kd.R_head h; refine (Try.slices_Clone_int g 0 xs.length c xs w (Nat.le_refl _) (by omega) (fun j hj => ?_)).mono ?_
   ·obtain ⟨ad', e, hx⟩ := Kd.at_int hC (j : Int) (by omega) (by omega)
    cases e
    rw [Int.toNat_natCast] at hx; rw [show (⟨g, 0, none⟩ : Addr).add j = ⟨g, j, none⟩ by unfold Addr.add; simp; try omega] at hx
    simpa [rd] using hx
   ·rintro e w' ⟨v', rfl, ho, _, hb⟩; rw [List.take_length] at ho; exact ⟨_, rfl, Kd.R_of_own (by simpa [encs] using ho) (fun _ _ => trivial), hb⟩
/-- append to a row of ints that is full. -/
theorem tree_All.grow_step {ops : Array Oper} {o : Oper} {a : Act} {K : Act → World → Prop} {Q : Exit → Act → World → Prop} {E : Prop} {W : World} {base : Nat} (hgd : o.guard = none) (s x : Operand) (hop : o.op = .call { callee := .builtin .append, args := #[s, x], argTypes := #[30, 30] })
  (A : Option Addr) (c : Nat) (xs : List Int) (i : Int) (hR : tree_All.RI W base (.slice A xs.length c) xs) (hs : a.eval s = .slice A xs.length xs.length) (bn : Nat) (hbn : bn = W.heap.size) (hx : a.eval x = .slice (some ⟨bn, 0, none⟩) 1 1) (hl : xs.length ≤ 1000000) (hbase : base ≤ W.heap.size)
  (hK : ∀ v1 w1, tree_All.RI w1 base v1 (xs ++ [i]) → Below W.heap.size W w1 → K (a.put o.dst v1) w1) :
  if Region.wanted o (yielded ops a.tmps) = true then Oper.wp Try.prog o a (W.alloc (.cells #[.int .i64 i] 3)) K Q else E := by
 subst hbn; obtain ⟨i0, hi, hz0, hz1, hz2⟩ := info_parts tree_All.infoInt; obtain ⟨A', c', e, hc, hC⟩ := Kd.R_reads hR; injection e with e1 _ e3; subst e1 e3; have hB := below_alloc (Below.refl W.heap.size W) (.cells #[.int .i64 i] 3); refine step_append_grows (w := W.alloc (.cells #[.int .i64 i] 3)) hgd s x 30 hop 3 i0 (.int .i64 0) 1 8 Try.underlying30 hi hz0 hz1 hz2 rfl (by decide) A xs.length xs.length (xs.map (Value.int .i64)) hs (fun e => ?_) (by simp) (fun b e j u hj => ?_) ⟨W.heap.size, 0, none⟩ 1 1 [.int .i64 i] hx rfl (fun j u hj => ?_) (fun u hu => ?_) (by omega) (by unfold maxLen; omega) (by omega) (fun v1 w1 ho hg => hK v1 w1 ?_ ?_)
 ·subst e
  rcases Nat.eq_zero_or_pos xs.length with h0 | h0
  ·exact ⟨h0, h0⟩
  ·obtain ⟨ad, e, _⟩ := Kd.at_int hC 0 (by omega) (by omega)
   cases e
 ·subst e
  have hj' : j < xs.length := by
   have := (List.getElem?_eq_some_iff.1 hj).1
   simpa using this
  obtain ⟨ad', e, hx2⟩ := Kd.at_int hC (j : Int) (by omega) (by omega)
  cases e
  rw [Int.toNat_natCast] at hx2; rw [List.getElem?_map, List.getElem?_eq_getElem hj'] at hj; simp only [Option.map_some, Option.some.injEq] at hj; subst hj; refine (hB.cell (World.block_lt_of_cell? W _ hx2)).trans (hx2.trans ?_)
  simp [rd, hj']
 ·match j, hj with
  | 0, hj =>
   simp only [List.getElem?_cons_zero, Option.some.injEq] at hj; subst hj; rw [show (⟨W.heap.size, 0, none⟩ : Addr).add 0 = ⟨W.heap.size, 0, none⟩ from rfl, Lib.cell_of_heap (blk_new _ _)]; rfl
 ·rw [List.mem_singleton.1 hu]; rfl
 ·exact Kd.R_of_own (own_weaken (by simpa [encs] using ho) (Nat.le_trans hbase hB.size)) (fun _ _ => trivial)
 ·refine hB.trans ?_; exact ⟨hg.os, hg.tape, hg.output, hg.size, fun k hk => hg.block k (Nat.lt_of_lt_of_le hk hB.size) (by simp)⟩
/-- What the literal in All does at a Node: the rows in block g grow. -/
def tree_All.Holds (w0 : World) (kind : Int) (g b3 b7 m : Nat) : Prop := ∀ (n : S26) (A : Option Addr) (cc : Nat) (here : List Int) (v2 : Value) (out : List (List Int)) (vo : Value) (r : List (List Int)) (w : World), n.f2.length ≤ cc → Kd.C k26 w0 A n.f2.length n.f2 → tree_All.RI w w0.heap.size v2 here →
 w.heap[g]? = some (.cells #[vo] 35 (0, 0)) → tree_All.RR w w0.heap.size vo out → w.heap[b3]? = some (.cells #[.int .i64 kind] 3 (0, 0)) → w.heap[b7]? = some (.cells #[(.func (.func 56) #[] #[.pointer (some ⟨b3, 0, none⟩), .pointer (some ⟨g, 0, none⟩), .pointer (some ⟨b7, 0, none⟩)])] 88 (0, 0)) → w0.heap.size ≤ g → b3 ≠ g → b7 ≠ g → Below w0.heap.size w0 w → tree_All.go kind m n here out = some r →
 Calls Try.prog 56 #[.agg #[.int .i64 n.f0, .int .i64 n.f1.f0, .string n.f1.f1, .slice A n.f2.length cc], v2, .pointer (some ⟨b3, 0, none⟩), .pointer (some ⟨g, 0, none⟩), .pointer (some ⟨b7, 0, none⟩)] w fun e w' => e = .returned (.tuple #[]) ∧ ∃ vo', w'.heap[g]? = some (.cells #[vo'] 35 (0, 0)) ∧ tree_All.RR w' w0.heap.size vo' r ∧ Below w0.heap.size w0 w' ∧ tree_All.Fr g w w'
set_option maxHeartbeats 16000000 in
set_option maxRecDepth 100000 in
theorem tree_All.walk_ok (w0 : World) (kind : Int) (g b3 b7 : Nat) : ∀ m, tree_All.Holds w0 kind g b3 b7 m := by
 have hu := Try.underlying26; intro m
 induction m with
 | zero =>
  intro n A cc here v2 out vo r w _ _ _ _ _ _ _ _ _ _ _ h
  simp [tree_All.go] at h
 | succ m ih =>
  intro n A cc here v2 out vo r w hcc hC hRI hG hRR h3 h7 hg n3 n7 hB h; rw [tree_All.go] at h; obtain ⟨hlh, h⟩ := Ut.ite_some h; obtain ⟨hlo, h⟩ := Ut.ite_some h; obtain ⟨A2, c2, e2, hc2, _⟩ := Kd.R_reads hRI; subst e2; have HC := Aside0.mk hC; have IH := Aside0.mk ih; have hmax : n.f2.length ≤ 9223372036854775807 := hC.2.1; have hgl := blk_lt hG; have HNG := Aside0.mk (And.intro hg (And.intro n3 n7)); have hA := below_alloc (Below.refl w.heap.size w) (.cells #[.int .i64 n.f0, .int .i64 n.f1.f0, .string n.f1.f1, .slice A n.f2.length cc] 26); have HB1 := Aside0.mk (below_alloc hB (.cells #[.int .i64 n.f0, .int .i64 n.f1.f0, .string n.f1.f1, .slice A n.f2.length cc] 26)); have HF1 := Aside0.mk (tree_All.Fr.below (g := g) hA); have HG1 := Aside0.mk (blk_alloc hG (.cells #[.int .i64 n.f0, .int .i64 n.f1.f0, .string n.f1.f1, .slice A n.f2.length cc] 26)); have HR1 := Aside0.mk (Kd.R_alloc hRR (.cells #[.int .i64 n.f0, .int .i64 n.f1.f0, .string n.f1.f1, .slice A n.f2.length cc] 26)); have HI1 := Aside0.mk (Kd.R_alloc hRI (.cells #[.int .i64 n.f0, .int .i64 n.f1.f0, .string n.f1.f1, .slice A n.f2.length cc] 26)); have H31 := Aside0.mk (blk_alloc h3 (.cells #[.int .i64 n.f0, .int .i64 n.f1.f0, .string n.f1.f1, .slice A n.f2.length cc] 26)); have H71 := Aside0.mk (blk_alloc h7 (.cells #[.int .i64 n.f0, .int .i64 n.f1.f0, .string n.f1.f1, .slice A n.f2.length cc] 26)); have HN1 := Aside0.mk (blk_new w (.cells #[.int .i64 n.f0, .int .i64 n.f1.f0, .string n.f1.f1, .slice A n.f2.length cc] 26)); have hsz := hB.size
  have hng : w.heap.size ≠ g := (by omega)
  have H := Aside0.mk h; clear hC ih hRI hG hRR h3 h7 hB hA n3 n7 h; go_enter Try.func56, Try.ntmps56; have e3 : (w.alloc (.cells #[.int .i64 n.f0, .int .i64 n.f1.f0, .string n.f1.f1, .slice A n.f2.length cc] 26)).cell? ⟨b3, 0, none⟩ = some (.int .i64 kind) := Lib.cell_of_heap H31.out 0
  go_upto_if 12 with fail
  go_cut [] (fun wc => ∃ (o : List (List Int)) (vp : Value), Aside0 (tree_All.kids (tree_All.go kind m) n.f2 0 here o = some r) ∧ Aside0 (wc.heap[w.heap.size]? = some (.cells #[.int .i64 n.f0, .int .i64 n.f1.f0, .string n.f1.f1, .slice A n.f2.length cc] 26 (0, 0))) ∧ Aside0 (wc.heap[g]? = some (.cells #[vp] 35 (0, 0))) ∧ Aside0 (tree_All.RR wc w0.heap.size vp o) ∧ Aside0 (tree_All.RI wc w0.heap.size (.slice A2 here.length c2) here) ∧ Aside0 (wc.heap[b3]? = some (.cells #[.int .i64 kind] 3 (0, 0))) ∧ Aside0 (wc.heap[b7]? = some (.cells #[(.func (.func 56) #[] #[.pointer (some ⟨b3, 0, none⟩), .pointer (some ⟨g, 0, none⟩), .pointer (some ⟨b7, 0, none⟩)])] 88 (0, 0))) ∧ Aside0 (Below w0.heap.size w0 wc) ∧ Aside0 (tree_All.Fr g w wc))
  case first =>
   have h := H.out; by_cases c : n.f0 = kind
   ·rw [if_pos c] at h; have HH := Aside0.mk h; have cb : (n.f0 == kind) = true := beq_iff_eq.mpr c; clear c h H; have eg : (w.alloc (.cells #[.int .i64 n.f0, .int .i64 n.f1.f0, .string n.f1.f1, .slice A n.f2.length cc] 26)).cell? ⟨g, 0, none⟩ = some vo := Lib.cell_of_heap HG1.out 0; have CL := Aside0.mk (tree_All.clone (w.alloc (.cells #[.int .i64 n.f0, .int .i64 n.f1.f0, .string n.f1.f1, .slice A n.f2.length cc] 26)).drew w0.heap.size (.slice A2 here.length c2) here (by omega) (Kd.R_drew HI1.out))
    have HO3 : ∀ w3, Below (w.alloc (.cells #[.int .i64 n.f0, .int .i64 n.f1.f0, .string n.f1.f1, .slice A n.f2.length cc] 26)).drew.heap.size (w.alloc (.cells #[.int .i64 n.f0, .int .i64 n.f1.f0, .string n.f1.f1, .slice A n.f2.length cc] 26)).drew w3 → tree_All.RR w3 w0.heap.size vo out := fun w3 hb => Kd.R_below (Kd.R_drew HR1.out) hb
    have HB3 : ∀ w3, Below (w.alloc (.cells #[.int .i64 n.f0, .int .i64 n.f1.f0, .string n.f1.f1, .slice A n.f2.length cc] 26)).drew.heap.size (w.alloc (.cells #[.int .i64 n.f0, .int .i64 n.f1.f0, .string n.f1.f1, .slice A n.f2.length cc] 26)).drew w3 → Below w0.heap.size w0 w3 := fun w3 hb => (below_drew1 HB1.out).trans (hb.mono (by have := HB1.out.size; have : (w.alloc (.cells #[.int .i64 n.f0, .int .i64 n.f1.f0, .string n.f1.f1, .slice A n.f2.length cc] 26)).drew.heap.size = (w.alloc (.cells #[.int .i64 n.f0, .int .i64 n.f1.f0, .string n.f1.f1, .slice A n.f2.length cc] 26)).heap.size := rfl; omega))
    have HG3 : ∀ w3, Below (w.alloc (.cells #[.int .i64 n.f0, .int .i64 n.f1.f0, .string n.f1.f1, .slice A n.f2.length cc] 26)).drew.heap.size (w.alloc (.cells #[.int .i64 n.f0, .int .i64 n.f1.f0, .string n.f1.f1, .slice A n.f2.length cc] 26)).drew w3 → w3.heap[g]? = some (.cells #[vo] 35 (0, 0)) := fun w3 hb => blk_below (blk_drew HG1.out) hb
    have HP3 : ∀ v3 w3, tree_All.RI w3 (w.alloc (.cells #[.int .i64 n.f0, .int .i64 n.f1.f0, .string n.f1.f1, .slice A n.f2.length cc] 26)).drew.heap.size v3 here → Kd.R (Kd.int .i64) 3 w3 w0.heap.size (fun k => some k ≠ vo.ownBlock) v3 here := fun v3 w3 hr => Kd.R_mono (Kd.R_lower (Kd.R_newR hr (Kd.R_drew HR1.out)) (by have := HB1.out.size; have : (w.alloc (.cells #[.int .i64 n.f0, .int .i64 n.f1.f0, .string n.f1.f1, .slice A n.f2.length cc] 26)).drew.heap.size = (w.alloc (.cells #[.int .i64 n.f0, .int .i64 n.f1.f0, .string n.f1.f1, .slice A n.f2.length cc] 26)).heap.size := rfl; omega)) (fun _ hk => hk.2)
    go_wp2_with fail
    go_region_law (first | (go_simp; go_at_call 57; refine CL.out.mono ?_; rintro e w3 ⟨v3, rfl, hr3, hb3⟩; obtain ⟨A3, c3, hv3, _, _⟩ := Kd.R_reads hr3; subst hv3; have hcg : w3.cell? ⟨g, 0, none⟩ = some vo := Lib.cell_of_heap (HG3 w3 hb3) 0; have hcg2 : (w3.alloc (.cells #[.slice A3 here.length c3] 30)).cell? ⟨g, 0, none⟩ = some vo := Lib.cell_of_heap (blk_alloc (HG3 w3 hb3) _) 0) | (refine Kd.R_append_step (Kd.slice 3 (Kd.int .i64)) w0.heap.size (w0 := w0) (by rfl) (.tmp 13) (.tmp 16) 35 30 (.slice none 0 0) 24 rfl Try.underlying35 tree_All.infoRow rfl (by decide) (by omega) vo out here [.slice A3 here.length c3] (fun _ => True) (fun k => some k ≠ vo.ownBlock) rfl rfl ⟨_, rfl, HP3 _ w3 hr3⟩ (fun k hk => ⟨trivial, hk⟩) (fun _ _ => trivial) (HO3 w3 hb3) (HB3 w3 hb3) (HB3 w3 hb3).size (by omega) ?_; intro v4 w4 hr4 hb4 hg4 hat4; obtain ⟨A4, c4, hv4, _, _⟩ := Kd.R_reads hr4; obtain ⟨n4, hn4⟩ : ∃ n, Aside0 (n = (out ++ [here]).length) := ⟨_, ⟨rfl⟩⟩; rw [← hn4.out] at hv4; subst hv4; have hst := blk_grown (HG3 w3 hb3) hg4 (Kd.R_ne (HO3 w3 hb3) (HG3 w3 hb3) (by decide)); have hct : w4.cell? ⟨g, 0, none⟩ = some vo := Lib.cell_of_heap hst 0; have hft := Lib.frozen_of_heap hst 0))
    all_goals
     have HG5 := Aside0.mk (blk_put (cs' := #[.slice A4 n4 c4]) hst 0 (.slice A4 n4 c4) rfl); have HO5 := Aside0.mk (Kd.R_set hr4 hst (by intro q hq e; subst e; revert hq; decide) 0 (.slice A4 n4 c4)); have HB5 := Aside0.mk (hb4.setCell (p := ⟨g, 0, none⟩) HNG.out.1 (.slice A4 n4 c4)); have HF51 := Aside0.mk (tree_All.Fr.set (tree_All.Fr.trans (tree_All.Fr.below (g := g) (show Below (w.alloc (.cells #[.int .i64 n.f0, .int .i64 n.f1.f0, .string n.f1.f1, .slice A n.f2.length cc] 26)).heap.size (w.alloc (.cells #[.int .i64 n.f0, .int .i64 n.f1.f0, .string n.f1.f1, .slice A n.f2.length cc] 26)) w3 from (below_drew1 (Below.refl _ _)).trans hb3)) (tree_All.Fr.grown (HO3 w3 hb3) hg4)) 0 (.slice A4 n4 c4)); have HF5 := Aside0.mk (tree_All.Fr.trans HF1.out HF51.out); have HI5 := Aside0.mk (tree_All.RI.fr HI1.out HF51.out HG1.out); have H35 := Aside0.mk (tree_All.Fr.blk HF51.out H31.out (by decide) HNG.out.2.1); have H75 := Aside0.mk (tree_All.Fr.blk HF51.out H71.out (by decide) HNG.out.2.2); have HN5 := Aside0.mk (tree_All.Fr.blk HF51.out HN1.out (by decide) hng)
     (try go_wp2_with fail)
     go_meet
     case rel => exact ⟨_, _, HH, HN5, HG5, HO5, HI5, H35, H75, HB5, HF5⟩
   ·rw [if_neg c] at h; have HH := Aside0.mk h; have cb : (n.f0 == kind) = false := beq_eq_false_iff_ne.mpr c; clear c h H; go_wp2_with fail
    go_meet
    case rel => exact ⟨_, _, HH, HN1, HG1, HR1, HI1, H31, H71, HB1, HF1⟩
  case rest =>
   clear HB1 HF1 HG1 HR1 HI1 H31 H71 HN1 H e3; obtain ⟨o0, vp0, HH, HN, HG, HR, HI, H3, H7, HB, HF⟩ := hcut; have z5 : wc.cell? ⟨w.heap.size, 3, none⟩ = some (.slice A n.f2.length cc) := Lib.cell_of_heap HN.out 3; go_wp2_with fail
   go_loopg [21] n.f2.length (fun kq v21 w' => ∃ (i : Nat) (o : List (List Int)) (vp : Value), v21 = .int .i64 (i : Int) ∧ Aside0 (i + kq = n.f2.length) ∧ Aside0 (tree_All.kids (tree_All.go kind m) (n.f2.drop i) i here o = some r) ∧ Aside0 (w'.heap[g]? = some (.cells #[vp] 35 (0, 0))) ∧ Aside0 (tree_All.RR w' w0.heap.size vp o) ∧ Aside0 (tree_All.RI w' w0.heap.size (.slice A2 here.length c2) here) ∧ Aside0 (w'.heap[b3]? = some (.cells #[.int .i64 kind] 3 (0, 0))) ∧ Aside0 (w'.heap[b7]? = some (.cells #[(.func (.func 56) #[] #[.pointer (some ⟨b3, 0, none⟩), .pointer (some ⟨g, 0, none⟩), .pointer (some ⟨b7, 0, none⟩)])] 88 (0, 0))) ∧ Aside0 (Below w0.heap.size w0 w') ∧ Aside0 (tree_All.Fr g w w'))
   case atStart => exact ⟨0, _, _, rfl, ⟨by omega⟩, HH, HG, HR, HI, H3, H7, HB, HF⟩
   case round =>
    clear HH HN HG HR HI H3 H7 HB HF z5; obtain ⟨i, o, vp, rfl, HK, HH, HG, HR, HI, H3, H7, HB, HF⟩ := hrel; by_cases hlt : i < n.f2.length
    ·have hd1 : decide ((i : Int) < (n.f2.length : Int)) = true := decide_eq_true (by omega); have H := HH.out; rw [List.drop_eq_getElem_cons hlt] at H; simp only [tree_All.kids] at H; obtain ⟨o', ho', Hn⟩ := Option.bind_eq_some_iff.mp H; clear H HH
     have hrd : rd_T26 n.f2 (i : Int) = n.f2[i] := (by simp [rd_T26, hlt])
     obtain ⟨ad, A3, c3, e, hx0, hx1, hx2, hx3, hl3, hC3⟩ := at_T26 HC.out (i : Int) (by omega) (by omega); rw [hrd] at hx0 hx1 hx2 hx3 hl3 hC3; rw [Int.toNat_natCast] at hx0 hx1 hx2 hx3; subst e; replace hx0 := (HB.out.cell (World.block_lt_of_cell? w0 _ hx0)).trans hx0; replace hx1 := (HB.out.cell (World.block_lt_of_cell? w0 _ hx1)).trans hx1; replace hx2 := (HB.out.cell (World.block_lt_of_cell? w0 _ hx2)).trans hx2; replace hx3 := (HB.out.cell (World.block_lt_of_cell? w0 _ hx3)).trans hx3; clear hrd; generalize n.f2[i] = x at *; have HO' := Aside0.mk ho'; have HH2 := Aside0.mk Hn; have HC3 := Aside0.mk (And.intro hC3 hl3); clear ho' Hn hC3 hl3
     cases gk with
     | zero => exact absurd hlt (by have := HK.out; omega)
     | succ kq' =>
     go_upto_region 6 with fail
     clear hx0 hx1 hx2 hx3 hd1
     have HW2 : Aside0 (Below wr.heap.size wr (wr.alloc (.cells #[.int .i64 x.f0, .int .i64 x.f1.f0, .string x.f1.f1, .slice A3 x.f2.length c3] 26))) := ⟨below_alloc (Below.refl _ _) _⟩
     have HX2 := Aside0.mk (blk_new wr (.cells #[.int .i64 x.f0, .int .i64 x.f1.f0, .string x.f1.f1, .slice A3 x.f2.length c3] 26))
     have HS2 : Aside0 ((wr.alloc (.cells #[.int .i64 x.f0, .int .i64 x.f1.f0, .string x.f1.f1, .slice A3 x.f2.length c3] 26)).heap.size = wr.heap.size + 1) := ⟨by simp⟩
     have HI2 := Aside0.mk (Kd.R_alloc HI.out (.cells #[.int .i64 x.f0, .int .i64 x.f1.f0, .string x.f1.f1, .slice A3 x.f2.length c3] 26)); generalize wr.alloc (.cells #[.int .i64 x.f0, .int .i64 x.f1.f0, .string x.f1.f1, .slice A3 x.f2.length c3] 26) = W2 at *; have f7 : W2.cell? ⟨b7, 0, none⟩ = some (.func (.func 56) #[] #[.pointer (some ⟨b3, 0, none⟩), .pointer (some ⟨g, 0, none⟩), .pointer (some ⟨b7, 0, none⟩)]) := Lib.cell_of_heap (blk_below H7.out HW2.out) 0; have f7a : (W2.alloc (.cells #[.int .i64 (i : Int)] 3)).cell? ⟨b7, 0, none⟩ = some (.func (.func 56) #[] #[.pointer (some ⟨b3, 0, none⟩), .pointer (some ⟨g, 0, none⟩), .pointer (some ⟨b7, 0, none⟩)]) := Lib.cell_of_heap (blk_alloc (blk_below H7.out HW2.out) _) 0; have y0 : W2.cell? ⟨wr.heap.size, 0, none⟩ = some (.int .i64 x.f0) := Lib.cell_of_heap HX2.out 0; have u0 : (W2.alloc (.cells #[.int .i64 (i : Int)] 3)).cell? ⟨wr.heap.size, 0, none⟩ = some (.int .i64 x.f0) := Lib.cell_of_heap (blk_alloc HX2.out _) 0; have y1 : W2.cell? ⟨wr.heap.size, 1, none⟩ = some (.int .i64 x.f1.f0) := Lib.cell_of_heap HX2.out 1; have u1 : (W2.alloc (.cells #[.int .i64 (i : Int)] 3)).cell? ⟨wr.heap.size, 1, none⟩ = some (.int .i64 x.f1.f0) := Lib.cell_of_heap (blk_alloc HX2.out _) 1; have y2 : W2.cell? ⟨wr.heap.size, 2, none⟩ = some (.string x.f1.f1) := Lib.cell_of_heap HX2.out 2; have u2 : (W2.alloc (.cells #[.int .i64 (i : Int)] 3)).cell? ⟨wr.heap.size, 2, none⟩ = some (.string x.f1.f1) := Lib.cell_of_heap (blk_alloc HX2.out _) 2; have y3 : W2.cell? ⟨wr.heap.size, 3, none⟩ = some (.slice A3 x.f2.length c3) := Lib.cell_of_heap HX2.out 3; have u3 : (W2.alloc (.cells #[.int .i64 (i : Int)] 3)).cell? ⟨wr.heap.size, 3, none⟩ = some (.slice A3 x.f2.length c3) := Lib.cell_of_heap (blk_alloc HX2.out _) 3; have KB := Aside0.mk (fun w5 (hb : Below W2.drew.heap.size W2.drew w5) => (show Below wr.heap.size wr w5 from HW2.out.trans ((below_drew1 (Below.refl W2.heap.size W2)).trans hb |>.mono HW2.out.size))); have hbs : w0.heap.size ≤ W2.drew.heap.size := Nat.le_trans HB.out.size HW2.out.size; have HLL := Aside0.mk (show here.length ≤ 1000000 by omega); clear hgl hsz hng hlo hlh hcc
     go_region_law (first | (refine tree_All.grow_step (W := W2.drew) (base := w0.heap.size) rfl (.tmp 33) (.tmp 35) rfl A2 c2 here (i : Int) (Kd.R_drew HI2.out) rfl W2.heap.size rfl rfl HLL.out hbs ?_; intro v5 w5 hr5 hb5; have f75 : w5.cell? ⟨b7, 0, none⟩ = some (.func (.func 56) #[] #[.pointer (some ⟨b3, 0, none⟩), .pointer (some ⟨g, 0, none⟩), .pointer (some ⟨b7, 0, none⟩)]) := Lib.cell_of_heap (blk_below H7.out (KB.out w5 hb5)) 0; have s0 : w5.cell? ⟨wr.heap.size, 0, none⟩ = some (.int .i64 x.f0) := Lib.cell_of_heap (blk_below (blk_drew HX2.out) hb5) 0; have s1 : w5.cell? ⟨wr.heap.size, 1, none⟩ = some (.int .i64 x.f1.f0) := Lib.cell_of_heap (blk_below (blk_drew HX2.out) hb5) 1; have s2 : w5.cell? ⟨wr.heap.size, 2, none⟩ = some (.string x.f1.f1) := Lib.cell_of_heap (blk_below (blk_drew HX2.out) hb5) 2; have s3 : w5.cell? ⟨wr.heap.size, 3, none⟩ = some (.slice A3 x.f2.length c3) := Lib.cell_of_heap (blk_below (blk_drew HX2.out) hb5) 3) | (go_simp; go_at_call 56; refine (IH.out x A3 c3 (here ++ [(i : Int)]) v5 o vp o' w5 HC3.out.2 HC3.out.1 hr5 (blk_below HG.out (KB.out w5 hb5)) (Kd.R_below HR.out (KB.out w5 hb5)) (blk_below H3.out (KB.out w5 hb5)) (blk_below H7.out (KB.out w5 hb5)) HNG.out.1 HNG.out.2.1 HNG.out.2.2 (HB.out.trans ((KB.out w5 hb5).mono HB.out.size)) HO'.out).mono ?_; rintro e w6 ⟨rfl, vo6, hg6, hr6, hb6, hf6⟩))
     all_goals
      have HFx := Aside0.mk (tree_All.Fr.trans (tree_All.Fr.below (g := g) (KB.out w5 hb5)) hf6); have HG6 := Aside0.mk hg6; have HR6 := Aside0.mk hr6; have HB6 := Aside0.mk hb6; clear f75 f7 f7a s0 s1 s2 s3 y0 y1 y2 y3 u0 u1 u2 u3 hr5 hb5 hg6 hr6 hb6 hf6 hbs; go_wp2_with fail
      go_roundg kq'
      case measure => omega
      case rel => exact ⟨i + 1, o', vo6, by go_num, ⟨by have := HK.out; omega⟩, HH2, HG6, HR6, ⟨tree_All.RI.fr HI.out HFx.out HG.out⟩, ⟨tree_All.Fr.blk HFx.out H3.out (by decide) HNG.out.2.1⟩, ⟨tree_All.Fr.blk HFx.out H7.out (by decide) HNG.out.2.2⟩, HB6, ⟨tree_All.Fr.trans HF.out HFx.out⟩⟩
    ·have hd1 : decide ((i : Int) < (n.f2.length : Int)) = false := decide_eq_false (by omega); have H := HH.out; rw [List.drop_of_length_le (by have := HK.out; omega)] at H; simp only [tree_All.kids, Option.some.injEq] at H; subst H; go_wp2_with fail; go_end0; exact ⟨rfl, vp, HG.out, HR.out, HB.out, HF.out⟩
theorem tree_All.run_store_func (P : Program) (w : World) (a : Addr) (f : Fn) (cs lb : Array Value) (m : Mode) : (store a (.func f cs lb) m).run P w = stored P w a (.func f cs lb) m := run_store P w a _ m rfl
attribute [local go_sem] tree_All.run_store_func
theorem tree_All.second (w : World) (o1 : Obj) (o2 : Obj) : Aside0 (((w.alloc o1).alloc o2).heap[w.heap.size + 1]? = some o2) := ⟨by
 have := blk_new (w.alloc o1) o2
 simpa using this⟩
set_option maxHeartbeats 8000000 in
set_option maxRecDepth 100000 in
theorem tree_All.calls (k : Nat) (a0_0 : Int) (a0_1 : Int) (a0_2 : ByteArray) (A0_3 : Option Addr) (c0_3 : Nat) (l0_3 : List (S26)) (a1 : Int) (r1 : List (List Int)) (r2 : Int) (w : World) (hr0_3 : Kd.C k26 w A0_3 l0_3.length l0_3) (hc0_3 : l0_3.length ≤ c0_3) (h : tree_All.f k a0_0 a0_1 a0_2 l0_3 a1 = some (r1, r2)) :
  Calls Try.prog 18 #[.agg #[.int .i64 a0_0, .int .i64 a0_1, .string a0_2, .slice A0_3 l0_3.length c0_3], .int .i64 a1] w fun e w' => ∃ v0_ : Value, e = .returned (.tuple #[v0_, .int .i64 r2]) ∧ Kd.R (Kd.slice 3 (Kd.int .i64)) 30 w' w.heap.size (fun _ => True) v0_ r1 ∧ Below w.heap.size w w' := by
 have hu := Try.underlying26; unfold tree_All.f at h; obtain ⟨b, hb, h⟩ := Option.bind_eq_some_iff.mp h; have HF := Aside0.mk hb; have HR := Aside0.mk hr0_3; have hB1 := below_alloc (below_alloc (Below.refl w.heap.size w) (.cells #[.int .i64 a0_0, .int .i64 a0_1, .string a0_2, .slice A0_3 l0_3.length c0_3] 26)) (.cells #[.int .i64 a1] 3); have HB := Aside0.mk hB1; have HN := Aside0.mk (blk_alloc (blk_new w (.cells #[.int .i64 a0_0, .int .i64 a0_1, .string a0_2, .slice A0_3 l0_3.length c0_3] 26)) (.cells #[.int .i64 a1] 3))
 have H3 : Aside0 (((w.alloc (.cells #[.int .i64 a0_0, .int .i64 a0_1, .string a0_2, .slice A0_3 l0_3.length c0_3] 26)).alloc (.cells #[.int .i64 a1] 3)).heap[w.heap.size + 1]? = some (.cells #[.int .i64 a1] 3 (0, 0))) := ⟨by
  have := blk_new (w.alloc (.cells #[.int .i64 a0_0, .int .i64 a0_1, .string a0_2, .slice A0_3 l0_3.length c0_3] 26)) (.cells #[.int .i64 a1] 3)
  simpa using this⟩
 clear hb hr0_3 hB1
 cases b with
 | false =>
  rw [if_neg (by decide)] at h; simp only [Option.some.injEq, Prod.mk.injEq] at h; obtain ⟨rfl, rfl⟩ := h; go_enter Try.func18, Try.ntmps18
  go_wp2_with (go_at_call 30; refine (tree_IsFormed.calls k _ _ _ _ _ _ _ _ (Kd.C_below HR.out HB.out) hc0_3 HF.out).mono ?_; rintro e w1 ⟨rfl, hb⟩; have HB1 := Aside0.mk (token_good.step HB.out hb); clear hb)
  go_ret2
  exact ⟨_, rfl, Kd.R_nil _ _ _ _ _, HB1.out⟩
 | true =>
  rw [if_pos rfl] at h; obtain ⟨l, hl, h⟩ := Option.bind_eq_some_iff.mp h; simp only [Option.some.injEq, Prod.mk.injEq] at h; obtain ⟨rfl, rfl⟩ := h; have HL := Aside0.mk hl; clear hl; go_enter Try.func18, Try.ntmps18
  go_wp2_with (go_at_call 30; refine (tree_IsFormed.calls k _ _ _ _ _ _ _ _ (Kd.C_below HR.out HB.out) hc0_3 HF.out).mono ?_; rintro e w1 ⟨rfl, hb⟩; have HB1 := Aside0.mk (token_good.step HB.out hb); have HN1 := Aside0.mk (blk_below HN.out hb); have H31 := Aside0.mk (blk_below H3.out hb); have z0 : w1.cell? ⟨w.heap.size, 0, none⟩ = some (.int .i64 a0_0) := Lib.cell_of_heap HN1.out 0; have z1 : w1.cell? ⟨w.heap.size, 1, none⟩ = some (.int .i64 a0_1) := Lib.cell_of_heap HN1.out 1; have z2 : w1.cell? ⟨w.heap.size, 2, none⟩ = some (.string a0_2) := Lib.cell_of_heap HN1.out 2; have z3 : w1.cell? ⟨w.heap.size, 3, none⟩ = some (.slice A0_3 l0_3.length c0_3) := Lib.cell_of_heap HN1.out 3; have HFb : Aside0 (((w1.alloc (.cells #[.slice none 0 0] 35)).alloc (.cells #[.nilFunc] 88)).heap[w1.heap.size + 1]? = some (.cells #[.nilFunc] 88 (0, 0))) := tree_All.second w1 _ _; have cF : ((w1.alloc (.cells #[.slice none 0 0] 35)).alloc (.cells #[.nilFunc] 88)).cell? ⟨w1.heap.size + 1, 0, none⟩ = some .nilFunc := Lib.cell_of_heap HFb.out 0; have fF := Lib.frozen_of_heap HFb.out 0; have hsz : w.heap.size + 2 ≤ w1.heap.size := (by have hq := hb.size; simp at hq; omega); have q0 : ((w1.alloc (.cells #[.slice none 0 0] 35)).alloc (.cells #[(.func (.func 56) #[] #[.pointer (some ⟨w.heap.size + 1, 0, none⟩), .pointer (some ⟨w1.heap.size, 0, none⟩), .pointer (some ⟨w1.heap.size + 1, 0, none⟩)])] 88)).cell? ⟨w.heap.size, 0, none⟩ = some (.int .i64 a0_0) := Lib.cell_of_heap (blk_alloc (blk_alloc HN1.out _) _) 0; have q1 : ((w1.alloc (.cells #[.slice none 0 0] 35)).alloc (.cells #[(.func (.func 56) #[] #[.pointer (some ⟨w.heap.size + 1, 0, none⟩), .pointer (some ⟨w1.heap.size, 0, none⟩), .pointer (some ⟨w1.heap.size + 1, 0, none⟩)])] 88)).cell? ⟨w.heap.size, 1, none⟩ = some (.int .i64 a0_1) := Lib.cell_of_heap (blk_alloc (blk_alloc HN1.out _) _) 1; have q2 : ((w1.alloc (.cells #[.slice none 0 0] 35)).alloc (.cells #[(.func (.func 56) #[] #[.pointer (some ⟨w.heap.size + 1, 0, none⟩), .pointer (some ⟨w1.heap.size, 0, none⟩), .pointer (some ⟨w1.heap.size + 1, 0, none⟩)])] 88)).cell? ⟨w.heap.size, 2, none⟩ = some (.string a0_2) := Lib.cell_of_heap (blk_alloc (blk_alloc HN1.out _) _) 2; have q3 : ((w1.alloc (.cells #[.slice none 0 0] 35)).alloc (.cells #[(.func (.func 56) #[] #[.pointer (some ⟨w.heap.size + 1, 0, none⟩), .pointer (some ⟨w1.heap.size, 0, none⟩), .pointer (some ⟨w1.heap.size + 1, 0, none⟩)])] 88)).cell? ⟨w.heap.size, 3, none⟩ = some (.slice A0_3 l0_3.length c0_3) := Lib.cell_of_heap (blk_alloc (blk_alloc HN1.out _) _) 3; have HCall := Aside0.mk (tree_All.walk_ok w a1 w1.heap.size (w.heap.size + 1) (w1.heap.size + 1) k ⟨a0_0, ⟨a0_1, a0_2⟩, l0_3⟩ A0_3 c0_3 [] (.slice none 0 0) [] (.slice none 0 0) l ((w1.alloc (.cells #[.slice none 0 0] 35)).alloc (.cells #[(.func (.func 56) #[] #[.pointer (some ⟨w.heap.size + 1, 0, none⟩), .pointer (some ⟨w1.heap.size, 0, none⟩), .pointer (some ⟨w1.heap.size + 1, 0, none⟩)])] 88)) hc0_3 HR.out (Kd.R_nil _ _ _ _ _) (blk_alloc (blk_new w1 _) _) (Kd.R_nil _ _ _ _ _) (blk_alloc (blk_alloc H31.out _) _) (tree_All.second w1 _ _).out (by omega) (by omega) (by omega) (below_alloc (below_alloc HB1.out _) _) HL.out); clear hb)
  refine HCall.out.mono ?_; rintro e w9 ⟨rfl, v9, h1, h2, h3, h4⟩; have e9 : w9.cell? ⟨w1.heap.size, 0, none⟩ = some v9 := Lib.cell_of_heap h1 0; have H2 := Aside0.mk h2; have H3 := Aside0.mk h3; clear h1 h2 h3 h4; go_wp2_with fail
  go_ret2
  exact ⟨_, rfl, H2.out, H3.out⟩

end Go.Proofs.Ytnafnieocpkkhaa.P

namespace Go.Proofs.Ytnafnieocpkkhaa.P
open Go.RowKit Go.Proofs.YtnafnieocpkkhaaW.PrintWords Go.Proofs.YtnafnieocpkkhaaW.PrintLast Go.Proofs.YtnafnieocpkkhaaW.PrintMore
attribute [local go_sem] max2_int min2_int max_two min_two max_three min_three max_four min_four
set_option linter.unusedVariables false
set_option linter.unusedSimpArgs false

def tree_text.all (g : S26 → List UInt8 → Option (List UInt8)) : List (S26) → List UInt8 → Option (List UInt8)
 | [], acc => some acc
 | x :: r, acc => (g x acc).bind fun a => tree_text.all g r a
def tree_text.go : Nat → S26 → List UInt8 → Option (List UInt8)
 | 0, _, _ => none
 | k + 1, n, acc => if acc.length + n.f1.f1.size ≤ 140737488355328 then tree_text.all (tree_text.go k) n.f2 (acc ++ n.f1.f1.data.toList) else none
def tree_text.f (k : Nat) (a0_0 : Int) (a0_1 : Int) (a0_2 : ByteArray) (l0_3 : List (S26)) : Option (ByteArray) := (tree_text.go k ⟨a0_0, ⟨a0_1, a0_2⟩, l0_3⟩ []).bind fun l => some ⟨l.toArray⟩
def tree_text.Holds (k : Nat) (w0 : World) (b : Nat) : Prop := ∀ (n : S26) (A : Option Addr) (cc : Nat) (acc r : List UInt8) (w : World), n.f2.length ≤ cc → Kd.C k26 w0 A n.f2.length n.f2 → Below w0.heap.size w0 w → Bld.IsB w0.heap.size b acc w → tree_text.go k n acc = some r →
 Calls Try.prog 83 #[.pointer (some ⟨b, 0, none⟩), .agg #[.int .i64 n.f0, .int .i64 n.f1.f0, .string n.f1.f1, .slice A n.f2.length cc]] w fun e w' => e = .returned (.tuple #[]) ∧ Bld.IsB w0.heap.size b r w' ∧ Below w0.heap.size w0 w'
set_option maxHeartbeats 8000000 in
set_option maxRecDepth 100000 in
theorem tree_text.write_ok (w0 : World) (b : Nat) : ∀ k, tree_text.Holds k w0 b := by
 have hu := Try.underlying26; have hu2 := Try.underlying23; intro k
 induction k with
 | zero =>
  intro n A cc acc r w hcc hC hB hI h
  simp [tree_text.go] at h
 | succ k ih =>
  intro n A cc acc r w hcc hC hB hI h; rw [tree_text.go] at h; obtain ⟨hlen, h⟩ := Ut.ite_some h; have HH := Aside0.mk h; have HC := Aside0.mk hC; have IH := Aside0.mk ih; have hmax : n.f2.length ≤ 9223372036854775807 := hC.2.1; have HB := Aside0.mk (below_alloc hB (.cells #[.int .i64 n.f0, .int .i64 n.f1.f0, .string n.f1.f1, .slice A n.f2.length cc] 26)); have HI := Aside0.mk (hI.alloc (.cells #[.int .i64 n.f0, .int .i64 n.f1.f0, .string n.f1.f1, .slice A n.f2.length cc] 26)); have HO := Aside0.mk (blk_new w (.cells #[.int .i64 n.f0, .int .i64 n.f1.f0, .string n.f1.f1, .slice A n.f2.length cc] 26)); have hbl := hI.lt; have HNE := Aside0.mk (show w.heap.size ≠ b by omega); clear h hC ih hB hI hbl; go_enter Try.func83, Try.ntmps83
  go_wp2_with (go_at_call 92; refine (Bld.write w0.heap.size b acc n.f1.f1 _ HI.out hlen (below_size HB.out)).mono ?_; rintro e w1 ⟨rfl, hI1, hb1, hk1⟩; have HI1 := Aside0.mk hI1; have HB1 := Aside0.mk (HB.out.trans hb1); have z3 : w1.cell? ⟨w.heap.size, 3, none⟩ = some (.slice A n.f2.length cc) := Lib.cell_of_heap (hk1 _ _ HO.out (fun e => HNE.out (Option.some.inj e)) (by intro c fz e; injection e with _ e2; exact absurd e2 (by decide))) 3; clear hI1 hb1 hk1)
  go_loopg [14] n.f2.length (fun kq v14 w' => ∃ (i : Nat) (ac : List UInt8), v14 = .int .i64 (i : Int) ∧ Aside0 (i + kq = n.f2.length) ∧ Aside0 (tree_text.all (tree_text.go k) (n.f2.drop i) ac = some r) ∧ Aside0 (Bld.IsB w0.heap.size b ac w') ∧ Aside0 (Below w0.heap.size w0 w'))
  case atStart => exact ⟨0, _, rfl, ⟨by omega⟩, HH, HI1, HB1⟩
  case round =>
   clear HH HI HB HI1 HB1 z3; obtain ⟨i, ac, rfl, HK, HH, HI, HB⟩ := hrel; by_cases hlt : i < n.f2.length
   ·have hd1 : decide ((i : Int) < (n.f2.length : Int)) = true := decide_eq_true (by omega); have H := HH.out; rw [List.drop_eq_getElem_cons hlt] at H; simp only [tree_text.all] at H; obtain ⟨a, ha, Hn⟩ := Option.bind_eq_some_iff.mp H; clear H
    have hrd : rd_T26 n.f2 (i : Int) = n.f2[i] := (by simp [rd_T26, hlt])
    obtain ⟨ad, A3, c3, e, hx0, hx1, hx2, hx3, hl3, hC3⟩ := at_T26 HC.out (i : Int) (by omega) (by omega); rw [hrd] at hx0 hx1 hx2 hx3 hl3 hC3; rw [Int.toNat_natCast] at hx0 hx1 hx2 hx3
    cases e
    replace hx0 := (HB.out.cell (World.block_lt_of_cell? w0 _ hx0)).trans hx0; replace hx1 := (HB.out.cell (World.block_lt_of_cell? w0 _ hx1)).trans hx1; replace hx2 := (HB.out.cell (World.block_lt_of_cell? w0 _ hx2)).trans hx2; replace hx3 := (HB.out.cell (World.block_lt_of_cell? w0 _ hx3)).trans hx3; clear hrd HH; generalize n.f2[i] = x at *; have HCall := Aside0.mk (IH.out x A3 c3 ac a (wr.alloc (.cells #[.int .i64 x.f0, .int .i64 x.f1.f0, .string x.f1.f1, .slice A3 x.f2.length c3] 26)) hl3 hC3 (below_alloc HB.out _) (HI.out.alloc _) ha); have HH2 := Aside0.mk Hn; clear Hn ha hl3 hC3
    cases gk with
    | zero => exact absurd hlt (by have := HK.out; omega)
    | succ kq' =>
    go_wp2_with (go_at_call 83; refine HCall.out.mono ?_; rintro e w2 ⟨rfl, h1, h2⟩; have H1 := Aside0.mk h1; have H2 := Aside0.mk h2; clear h1 h2)
    go_roundg kq'
    case measure => omega
    case rel => exact ⟨i + 1, _, by go_num, ⟨by have := HK.out; omega⟩, HH2, H1, H2⟩
   ·have hd1 : decide ((i : Int) < (n.f2.length : Int)) = false := decide_eq_false (by omega); have H := HH.out; rw [List.drop_of_length_le (by have := HK.out; omega)] at H; simp only [tree_text.all, Option.some.injEq] at H; subst H; go_wp2_with fail; go_end0; exact ⟨rfl, HI.out, HB.out⟩
set_option maxHeartbeats 8000000 in
set_option maxRecDepth 100000 in
theorem tree_text.calls (k : Nat) (a0_0 : Int) (a0_1 : Int) (a0_2 : ByteArray) (A0_3 : Option Addr) (c0_3 : Nat) (l0_3 : List (S26)) (r : ByteArray) (w : World) (hr0_3 : Kd.C k26 w A0_3 l0_3.length l0_3) (hc0_3 : l0_3.length ≤ c0_3) (h : tree_text.f k a0_0 a0_1 a0_2 l0_3 = some r) :
  Calls Try.prog 61 #[.agg #[.int .i64 a0_0, .int .i64 a0_1, .string a0_2, .slice A0_3 l0_3.length c0_3]] w fun e w' => e = .returned (.string r) ∧ Below w.heap.size w w' := by
 have hu := Try.underlying26; obtain ⟨l, hl, h⟩ := Option.bind_eq_some_iff.mp h; injection h with h; subst h; have hB := below_alloc (below_alloc (Below.refl w.heap.size w) (.cells #[.int .i64 a0_0, .int .i64 a0_1, .string a0_2, .slice A0_3 l0_3.length c0_3] 26)) (.cells #[.pointer none, .slice none 0 0] 114)
 have hI : Bld.IsB w.heap.size (w.heap.size + 1) [] ((w.alloc (.cells #[.int .i64 a0_0, .int .i64 a0_1, .string a0_2, .slice A0_3 l0_3.length c0_3] 26)).alloc (.cells #[.pointer none, .slice none 0 0] 114)) := by
  have := Bld.IsB.new (B := w.heap.size) (w := w.alloc (.cells #[.int .i64 a0_0, .int .i64 a0_1, .string a0_2, .slice A0_3 l0_3.length c0_3] 26)) (by simp)
  simpa using this
 have HF := Aside0.mk (tree_text.write_ok w (w.heap.size + 1) k ⟨a0_0, ⟨a0_1, a0_2⟩, l0_3⟩ A0_3 c0_3 [] l _ hc0_3 hr0_3 hB hI hl); clear hl hB hI hr0_3; go_enter Try.func61, Try.ntmps61
 go_wp2_with (first | (go_at_call 83; refine HF.out.mono ?_; rintro e w1 ⟨rfl, h1, h2⟩; have HI := Aside0.mk h1; have HB := Aside0.mk h2; clear h1 h2) | (go_at_call 84; refine (Bld.string w.heap.size (w.heap.size + 1) l _ HI.out (below_size HB.out)).mono ?_; rintro e w2 ⟨rfl, hb2⟩; have HB2 := Aside0.mk (HB.out.trans hb2); clear hb2))
 go_ret; exact ⟨rfl, HB2.out⟩

end Go.Proofs.Ytnafnieocpkkhaa.P

namespace Go.Proofs.Ytnafnieocpkkhaa.P
open Go.RowKit Go.Proofs.YtnafnieocpkkhaaW.PrintWords Go.Proofs.YtnafnieocpkkhaaW.PrintLast Go.Proofs.YtnafnieocpkkhaaW.PrintMore
attribute [local go_sem] max2_int min2_int max_two min_two max_three min_three max_four min_four
set_option linter.unusedVariables false
set_option linter.unusedSimpArgs false

/-! ### tree_Text: function 26 -/
def tree_Text.f (k : Nat) (a0_0 : Int) (a0_1 : Int) (a0_2 : ByteArray) (l0_3 : List (S26)) : Option (ByteArray × Int) := (tree_IsFormed.f k a0_0 a0_1 a0_2 l0_3).bind fun t233 => (if t233 = true then ((tree_text.f k a0_0 a0_1 a0_2 l0_3).bind fun t234 => (some (t234, 0))) else (some ((⟨#[]⟩ : ByteArray), 4)))
set_option maxHeartbeats 8000000 in
set_option maxRecDepth 100000 in
theorem tree_Text.calls (k : Nat) (a0_0 : Int) (a0_1 : Int) (a0_2 : ByteArray) (A0_3 : Option Addr) (c0_3 : Nat) (l0_3 : List (S26)) (r1 : ByteArray) (r2 : Int) (w : World) (hr0_3 : Kd.C k26 w A0_3 l0_3.length l0_3) (hc0_3 : l0_3.length ≤ c0_3) (h : tree_Text.f k a0_0 a0_1 a0_2 l0_3 = some (r1, r2)) :
  Calls Try.prog 26 #[.agg #[.int .i64 a0_0, .int .i64 a0_1, .string a0_2, .slice A0_3 l0_3.length c0_3]] w fun e w' => e = .returned (.tuple #[.string r1, .int .i64 r2]) ∧ Below w.heap.size w w' := by
 have hu26 := Try.underlying26; have HR0_3 := Aside0.mk hr0_3; have HC0_3 := Aside0.mk hc0_3; clear hr0_3 hc0_3; have HB := Aside0.mk (Below.refl w.heap.size w); have H : ((tree_IsFormed.f k a0_0 a0_1 a0_2 l0_3).bind fun t233 => (if t233 = true then ((tree_text.f k a0_0 a0_1 a0_2 l0_3).bind fun t234 => (some (t234, 0))) else (some ((⟨#[]⟩ : ByteArray), 4)))) = some (r1, r2) := h; clear h; replace H := zo H; obtain ⟨t233, A2, H⟩ := H; by_cases c3 : t233 = true
 ·subst c3; rw [if_pos rfl] at H; replace H := zo H; obtain ⟨t234, A4, H⟩ := H; simp only [Option.some.injEq, Prod.mk.injEq] at H; obtain ⟨rfl, rfl⟩ := H; go_enter Try.func26, Try.ntmps26
  go_wp2_with (first | ((with_reducible refine zD 1 rfl ?_); refine zx 1 #[.int .i64 a0_0, .int .i64 a0_1, .string a0_2, .slice A0_3 l0_3.length c0_3] 26 ?_; intro gb232 hg w5 hbox hb; have BK232 := Aside0.mk (hbox); have GW232 := (zq hg : Aside0 (w.heap.size ≤ gb232)); have GE232 := GW232; replace HB := (zB hb); clear hb hbox hg; obtain ⟨hcz6_0, hcz6_1, hcz6_2, hcz6_3⟩ := zc4 BK232; obtain ⟨hfz6_0, hfz6_1, hfz6_2, hfz6_3⟩ := zz4 BK232) | ((with_reducible refine zG 30 rfl ?_); refine zg 5 Try.func30 ((tree_IsFormed.calls k a0_0 a0_1 a0_2 _ _ l0_3 true _ ?side1 ?side2 A2.out).mono ?_); (case side1 => exact zC HR0_3); (case side2 => exact HC0_3.out); rintro e w7 ⟨rfl, hb⟩; refine ⟨_, rfl, ?_⟩; replace BK232 := (zK BK232 hb); replace HB := (zB hb); (try clear hb); (try clear hb2); (try clear hk); (try clear hi); obtain ⟨hcz8_0, hcz8_1, hcz8_2, hcz8_3⟩ := zc4 BK232; obtain ⟨hfz8_0, hfz8_1, hfz8_2, hfz8_3⟩ := zz4 BK232) | ((with_reducible refine zG 61 rfl ?_); refine zg 8 Try.func61 ((tree_text.calls k a0_0 a0_1 a0_2 _ _ l0_3 t234 _ ?side1 ?side2 A4.out).mono ?_); (case side1 => exact zC HR0_3); (case side2 => exact HC0_3.out); rintro e w9 ⟨rfl, hb⟩; refine ⟨_, rfl, ?_⟩; replace BK232 := (zK BK232 hb); replace HB := (zB hb); (try clear hb); (try clear hb2); (try clear hk); (try clear hi)))
  go_ret2
  exact ⟨zr, zb⟩
 ·replace c3 := Bool.eq_false_iff.mpr c3; subst c3; replace H := zf H; simp only [Option.some.injEq, Prod.mk.injEq] at H; obtain ⟨rfl, rfl⟩ := H; go_enter Try.func26, Try.ntmps26
  go_wp2_with (first | ((with_reducible refine zD 1 rfl ?_); refine zx 1 #[.int .i64 a0_0, .int .i64 a0_1, .string a0_2, .slice A0_3 l0_3.length c0_3] 26 ?_; intro gb232 hg w10 hbox hb; have BK232 := Aside0.mk (hbox); have GW232 := (zq hg : Aside0 (w.heap.size ≤ gb232)); have GE232 := GW232; replace HB := (zB hb); clear hb hbox hg; obtain ⟨hcz11_0, hcz11_1, hcz11_2, hcz11_3⟩ := zc4 BK232; obtain ⟨hfz11_0, hfz11_1, hfz11_2, hfz11_3⟩ := zz4 BK232) | ((with_reducible refine zG 30 rfl ?_); refine zg 5 Try.func30 ((tree_IsFormed.calls k a0_0 a0_1 a0_2 _ _ l0_3 false _ ?side1 ?side2 A2.out).mono ?_); (case side1 => exact zC HR0_3); (case side2 => exact HC0_3.out); rintro e w12 ⟨rfl, hb⟩; refine ⟨_, rfl, ?_⟩; replace BK232 := (zK BK232 hb); replace HB := (zB hb); (try clear hb); (try clear hb2); (try clear hk); (try clear hi)))
  go_ret2
  exact ⟨zr, zb⟩

/-! ### tree_count: function 64 -/
mutual
def tree_count.l0 : Nat → Int → Int → List (S26) → Int → Int → Option (Int × Int)
 | 0, _, _, _, _, _ => none
 | k + 1, x4, x5, x11, x12, x13 => if x13 < x12 then (if 0 ≤ x13 then (if x13 < (x11.length : Int) then ((tree_count.f k ((rd_T26 x11 x13).f0) ((rd_T26 x11 x13).f1.f0) ((rd_T26 x11 x13).f1.f1) ((rd_T26 x11 x13).f2)).bind fun bt238 => (tree_count.l0 k (wrap64 (x4 + bt238.1)) (mx x5 (wrap64 (bt238.2 + 1))) x11 x12 (wrap64 (x13 + 1)))) else (none)) else (none)) else (some (x4, x5))
def tree_count.f : Nat → Int → Int → ByteArray → List (S26) → Option (Int × Int)
 | 0, _, _, _, _ => none
 | k + 1, a0_0, a0_1, a0_2, l0_3 => tree_count.l0 k 1 0 l0_3 (l0_3.length : Int) 0
end
set_option maxHeartbeats 8000000 in
set_option maxRecDepth 100000 in
theorem tree_count.calls (k : Nat) : ∀ (a0_0 : Int) (a0_1 : Int) (a0_2 : ByteArray) (A0_3 : Option Addr) (c0_3 : Nat) (l0_3 : List (S26)) (r1 : Int) (r2 : Int) (w : World) (hr0_3 : Kd.C k26 w A0_3 l0_3.length l0_3) (hc0_3 : l0_3.length ≤ c0_3) (h : tree_count.f k a0_0 a0_1 a0_2 l0_3 = some (r1, r2)),
  Calls Try.prog 64 #[.agg #[.int .i64 a0_0, .int .i64 a0_1, .string a0_2, .slice A0_3 l0_3.length c0_3]] w fun e w' => e = .returned (.tuple #[.int .i64 r1, .int .i64 r2]) ∧ Below w.heap.size w w' := by
 induction k using Nat.strongRecOn with
 | _ k ih =>
 intro a0_0 a0_1 a0_2 A0_3 c0_3 l0_3 r1 r2 w hr0_3 hc0_3 h
 cases k with
 | zero => exact absurd h (by simp [tree_count.f])
 | succ k =>
 simp only [tree_count.f] at h; have hu26 := Try.underlying26; have HR0_3 := Aside0.mk hr0_3; have HC0_3 := Aside0.mk hc0_3; clear hr0_3 hc0_3; have HB := Aside0.mk (Below.refl w.heap.size w); have H : (tree_count.l0 k 1 0 l0_3 (l0_3.length : Int) 0) = some (r1, r2) := h; clear h; have H' := Aside0.mk H; clear H; go_enter Try.func64, Try.ntmps64
 go_wp2_with (first | ((with_reducible refine zD 1 rfl ?_); refine zx 1 #[.int .i64 a0_0, .int .i64 a0_1, .string a0_2, .slice A0_3 l0_3.length c0_3] 26 ?_; intro gb235 hg w2 hbox hb; have BK235 := Aside0.mk (hbox); have GW235 := (zq hg : Aside0 (w.heap.size ≤ gb235)); have GE235 := GW235; replace HB := (zB hb); clear hb hbox hg; obtain ⟨hcz3_0, hcz3_1, hcz3_2, hcz3_3⟩ := zc4 BK235; obtain ⟨hfz3_0, hfz3_1, hfz3_2, hfz3_3⟩ := zz4 BK235))
 go_loopg [4, 5, 13] k (fun kq v4 v5 v13 w' => ∃ (x4_1 : Int) (x5_1 : Int) (x13_1 : Int), v4 = .int .i64 x4_1 ∧ v5 = .int .i64 x5_1 ∧ v13 = .int .i64 x13_1 ∧ Aside0 (tree_count.l0 kq x4_1 x5_1 l0_3 (l0_3.length : Int) x13_1 = some (r1, r2)) ∧ Aside0 (kq ≤ k) ∧ Aside0 (w'.heap[gb235]? = some (.cells #[.int .i64 a0_0, .int .i64 a0_1, .string a0_2, (.slice A0_3 l0_3.length c0_3)] 26 (0, 0))) ∧ Aside0 (Below w.heap.size w w'))
 case atStart => exact ⟨(1), (0), (0), zs, zs, zs, H', ⟨Nat.le_refl _⟩, (zA BK235), ⟨zb⟩⟩
 case round =>
  clear H'; obtain ⟨x4_1, x5_1, x13_1, rfl, rfl, rfl, HA, HK1, BK235, HB⟩ := hrel
  cases gk with
  | zero => exact absurd HA.out (by simp [tree_count.l0])
  | succ k1 =>
   have H := HA.out; clear HA; simp only [tree_count.l0] at H; by_cases c4 : x13_1 < (l0_3.length : Int)
   ·rw [if_pos c4] at H; have c4b0 := decide_eq_true c4; clear c4; replace H := zi1 H; obtain ⟨c5b0, H⟩ := H; replace H := zi1 H; obtain ⟨c6b0, H⟩ := H; replace H := Option.bind_eq_some_iff.mp H; obtain ⟨⟨t238, t239⟩, A70, H⟩ := H; replace H : (tree_count.l0 k1 (wrap64 (x4_1 + t238)) (mx x5_1 (wrap64 (t239 + 1))) l0_3 (l0_3.length : Int) (wrap64 (x13_1 + 1))) = some (r1, r2) := H; have A7 := Aside0.mk A70; clear A70
    obtain ⟨ji8, hji8⟩ : ∃ j_ : Int, (mx x5_1 (wrap64 (t239 + 1))) = j_ := ⟨_, rfl⟩
    replace H : (tree_count.l0 k1 (wrap64 (x4_1 + t238)) ji8 l0_3 (l0_3.length : Int) (wrap64 (x13_1 + 1))) = some (r1, r2) := by first | (rw [hji8] at H; exact H) | (simp only [hji8] at H ⊢; exact H)
    (try rw [hji8] at A7)
    have hji8_ : (if x5_1 < (wrap64 (t239 + 1)) then (wrap64 (t239 + 1)) else x5_1) = ji8 := hji8; have H' := Aside0.mk H; clear H; have p236 : 0 ≤ (x13_1 : Int) := zt; have q236 : x13_1 < (l0_3.length : Int) := zt; obtain ⟨ad236, A236_3, c236_3, e236, hx236_0, hx236_1, hx236_2, hx236_3, hl236_3, hi236_3⟩ := at_T26 HR0_3.out x13_1 p236 q236
    cases e236
    replace hx236_0 := zh HB hx236_0; replace hx236_1 := zh HB hx236_1; replace hx236_2 := zh HB hx236_2; replace hx236_3 := zh HB hx236_3; have HR236_3 := Aside0.mk hi236_3; have HC236_3 := Aside0.mk hl236_3; clear hi236_3 hl236_3; replace p236 := eq_true p236; replace q236 := eq_true q236
    go_wp2_with (first | ((with_reducible refine zD 7 rfl ?_); refine zx 7 #[.int .i64 0, .int .i64 0, .string (⟨#[]⟩ : ByteArray), .slice none 0 0] 26 ?_; intro gb237 hg w9 hbox hb; have BK237 := Aside0.mk (hbox); have GW237 := (zq hg : Aside0 (w.heap.size ≤ gb237)); have GE237 := GW237; replace HB := (zB hb); have NB235_237 := (zl hg BK235 : Aside0 (gb235 ≠ gb237)); have NB237_235 := (zl' hg BK235 : Aside0 (gb237 ≠ gb235)); replace BK235 := (zK BK235 hb); clear hb hbox hg; have hnb10 := NB237_235.out; have hnc10 := NB235_237.out; obtain ⟨hcz11_0, hcz11_1, hcz11_2, hcz11_3⟩ := zc4 BK237; obtain ⟨hfz11_0, hfz11_1, hfz11_2, hfz11_3⟩ := zz4 BK237) | ((with_reducible refine zG 64 rfl ?_); refine zg 19 Try.func64 ((ih k1 (by have := HK1.out; omega) ((rd_T26 l0_3 x13_1).f0) ((rd_T26 l0_3 x13_1).f1.f0) ((rd_T26 l0_3 x13_1).f1.f1) _ _ ((rd_T26 l0_3 x13_1).f2) t238 t239 _ ?side1 ?side2 A7.out).mono ?_); (case side1 => exact Kd.C_below HR236_3.out zb); (case side2 => exact HC236_3.out); rintro e w12 ⟨rfl, hb⟩; refine ⟨_, rfl, ?_⟩; replace BK235 := (zw2 gb235 #[.int .i64 a0_0, .int .i64 a0_1, .string a0_2, .slice (some ad236) l0_3.length c0_3] 26 hb); replace BK237 := (zw2 gb237 #[.int .i64 ((rd_T26 l0_3 x13_1).f0), .int .i64 ((rd_T26 l0_3 x13_1).f1.f0), .string ((rd_T26 l0_3 x13_1).f1.f1), .slice A236_3 ((rd_T26 l0_3 x13_1).f2).length c236_3] 26 hb); replace HB := (zB hb); (try clear hb); (try clear hb2); (try clear hk); (try clear hi)))
    go_roundg k1
    case measure => have := HK1.out; omega
    case rel => exact ⟨(wrap64 (x4_1 + t238)), (ji8), (wrap64 (x13_1 + 1)), zs, (by first | rfl | (simp; done) | (simp only [← hji8] <;> (first | rfl | simp)) | (simp [*]; done)), zs, H', zk, (zA BK235), ⟨zb⟩⟩
   ·rw [if_neg c4] at H; have c4b0 := decide_eq_false c4; clear c4; simp only [Option.some.injEq, Prod.mk.injEq] at H; obtain ⟨rfl, rfl⟩ := H; go_wp2
    go_ret2
    exact ⟨zr, zb⟩

/-! ### tree_Count: function 29 -/
def tree_Count.f (k : Nat) (a0_0 : Int) (a0_1 : Int) (a0_2 : ByteArray) (l0_3 : List (S26)) : Option (Int × Int × Int) := (tree_IsFormed.f k a0_0 a0_1 a0_2 l0_3).bind fun t241 => (if t241 = true then ((tree_count.f k a0_0 a0_1 a0_2 l0_3).bind fun bt242 => (some (bt242.1, bt242.2, 0))) else (some (0, 0, 4)))
set_option maxHeartbeats 8000000 in
set_option maxRecDepth 100000 in
theorem tree_Count.calls (k : Nat) (a0_0 : Int) (a0_1 : Int) (a0_2 : ByteArray) (A0_3 : Option Addr) (c0_3 : Nat) (l0_3 : List (S26)) (r1 : Int) (r2 : Int) (r3 : Int) (w : World) (hr0_3 : Kd.C k26 w A0_3 l0_3.length l0_3) (hc0_3 : l0_3.length ≤ c0_3) (h : tree_Count.f k a0_0 a0_1 a0_2 l0_3 = some (r1, r2, r3)) :
  Calls Try.prog 29 #[.agg #[.int .i64 a0_0, .int .i64 a0_1, .string a0_2, .slice A0_3 l0_3.length c0_3]] w fun e w' => e = .returned (.tuple #[.int .i64 r1, .int .i64 r2, .int .i64 r3]) ∧ Below w.heap.size w w' := by
 have hu26 := Try.underlying26; have HR0_3 := Aside0.mk hr0_3; have HC0_3 := Aside0.mk hc0_3; clear hr0_3 hc0_3; have HB := Aside0.mk (Below.refl w.heap.size w); have H : ((tree_IsFormed.f k a0_0 a0_1 a0_2 l0_3).bind fun t241 => (if t241 = true then ((tree_count.f k a0_0 a0_1 a0_2 l0_3).bind fun bt242 => (some (bt242.1, bt242.2, 0))) else (some (0, 0, 4)))) = some (r1, r2, r3) := h; clear h; replace H := zo H; obtain ⟨t241, A2, H⟩ := H; by_cases c3 : t241 = true
 ·subst c3; rw [if_pos rfl] at H; replace H := Option.bind_eq_some_iff.mp H; obtain ⟨⟨t242, t243⟩, A40, H⟩ := H; replace H : (some (t242, t243, 0)) = some (r1, r2, r3) := H; have A4 := Aside0.mk A40; clear A40; simp only [Option.some.injEq, Prod.mk.injEq] at H; obtain ⟨rfl, rfl, rfl⟩ := H; go_enter Try.func29, Try.ntmps29
  go_wp2_with (first | ((with_reducible refine zD 1 rfl ?_); refine zx 1 #[.int .i64 a0_0, .int .i64 a0_1, .string a0_2, .slice A0_3 l0_3.length c0_3] 26 ?_; intro gb240 hg w5 hbox hb; have BK240 := Aside0.mk (hbox); have GW240 := (zq hg : Aside0 (w.heap.size ≤ gb240)); have GE240 := GW240; replace HB := (zB hb); clear hb hbox hg; obtain ⟨hcz6_0, hcz6_1, hcz6_2, hcz6_3⟩ := zc4 BK240; obtain ⟨hfz6_0, hfz6_1, hfz6_2, hfz6_3⟩ := zz4 BK240) | ((with_reducible refine zG 30 rfl ?_); refine zg 8 Try.func30 ((tree_IsFormed.calls k a0_0 a0_1 a0_2 _ _ l0_3 true _ ?side1 ?side2 A2.out).mono ?_); (case side1 => exact zC HR0_3); (case side2 => exact HC0_3.out); rintro e w7 ⟨rfl, hb⟩; refine ⟨_, rfl, ?_⟩; replace BK240 := (zK BK240 hb); replace HB := (zB hb); (try clear hb); (try clear hb2); (try clear hk); (try clear hi); obtain ⟨hcz8_0, hcz8_1, hcz8_2, hcz8_3⟩ := zc4 BK240; obtain ⟨hfz8_0, hfz8_1, hfz8_2, hfz8_3⟩ := zz4 BK240) | ((with_reducible refine zG 64 rfl ?_); refine zg 12 Try.func64 ((tree_count.calls k a0_0 a0_1 a0_2 _ _ l0_3 t242 t243 _ ?side1 ?side2 A4.out).mono ?_); (case side1 => exact zC HR0_3); (case side2 => exact HC0_3.out); rintro e w9 ⟨rfl, hb⟩; refine ⟨_, rfl, ?_⟩; replace BK240 := (zK BK240 hb); replace HB := (zB hb); (try clear hb); (try clear hb2); (try clear hk); (try clear hi)))
  go_ret3
  exact ⟨zr, zb⟩
 ·replace c3 := Bool.eq_false_iff.mpr c3; subst c3; replace H := zf H; simp only [Option.some.injEq, Prod.mk.injEq] at H; obtain ⟨rfl, rfl, rfl⟩ := H; go_enter Try.func29, Try.ntmps29
  go_wp2_with (first | ((with_reducible refine zD 1 rfl ?_); refine zx 1 #[.int .i64 a0_0, .int .i64 a0_1, .string a0_2, .slice A0_3 l0_3.length c0_3] 26 ?_; intro gb240 hg w10 hbox hb; have BK240 := Aside0.mk (hbox); have GW240 := (zq hg : Aside0 (w.heap.size ≤ gb240)); have GE240 := GW240; replace HB := (zB hb); clear hb hbox hg; obtain ⟨hcz11_0, hcz11_1, hcz11_2, hcz11_3⟩ := zc4 BK240; obtain ⟨hfz11_0, hfz11_1, hfz11_2, hfz11_3⟩ := zz4 BK240) | ((with_reducible refine zG 30 rfl ?_); refine zg 8 Try.func30 ((tree_IsFormed.calls k a0_0 a0_1 a0_2 _ _ l0_3 false _ ?side1 ?side2 A2.out).mono ?_); (case side1 => exact zC HR0_3); (case side2 => exact HC0_3.out); rintro e w12 ⟨rfl, hb⟩; refine ⟨_, rfl, ?_⟩; replace BK240 := (zK BK240 hb); replace HB := (zB hb); (try clear hb); (try clear hb2); (try clear hk); (try clear hi)))
  go_ret3
  exact ⟨zr, zb⟩

/-! ### marginalialaw05_leaf: function 42 -/
def marginalialaw05_leaf.f (k : Nat) (a0 : ByteArray) : Option (Int × Int × ByteArray × (List (S26))) := (marginaliaref03_Next.f k a0 0).bind fun bt245 => (some (1, bt245.1, bt245.2, ([] : List (S26))))
set_option maxHeartbeats 8000000 in
set_option maxRecDepth 100000 in
theorem marginalialaw05_leaf.calls (k : Nat) (a0 : ByteArray) (r1 : Int) (r2 : Int) (r3 : ByteArray) (r4 : List (S26)) (w : World) (h : marginalialaw05_leaf.f k a0 = some (r1, r2, r3, r4)) :
  Calls Try.prog 42 #[.string a0] w fun e w' => ∃ v3_ : Value, e = .returned (.agg #[.int .i64 r1, .int .i64 r2, .string r3, v3_]) ∧ Kd.R k26 26 w' w.heap.size (fun _ => True) v3_ r4 ∧ Below w.heap.size w w' := by
 have hu26 := Try.underlying26; have HB := Aside0.mk (Below.refl w.heap.size w); have H : ((marginaliaref03_Next.f k a0 0).bind fun bt245 => (some (1, bt245.1, bt245.2, ([] : List (S26))))) = some (r1, r2, r3, r4) := h; clear h; replace H := Option.bind_eq_some_iff.mp H; obtain ⟨⟨t245, t246⟩, A20, H⟩ := H; replace H : (some (1, t245, t246, ([] : List (S26)))) = some (r1, r2, r3, r4) := H; have A2 := Aside0.mk A20; clear A20; simp only [Option.some.injEq, Prod.mk.injEq] at H; obtain ⟨rfl, rfl, rfl, rfl⟩ := H; go_enter Try.func42, Try.ntmps42
 go_wp2_with (first | ((with_reducible refine zD 2 rfl ?_); refine zx 2 #[.int .i64 0, .int .i64 0, .string (⟨#[]⟩ : ByteArray), .slice none 0 0] 26 ?_; intro gb244 hg w3 hbox hb; have BK244 := Aside0.mk (hbox); have GW244 := (zq hg : Aside0 (w.heap.size ≤ gb244)); have GE244 := GW244; replace HB := (zB hb); clear hb hbox hg) | ((with_reducible refine zG 75 rfl ?_); refine zg 4 Try.func75 ((marginaliaref03_Next.calls k a0 0 t245 t246 _ A2.out).mono ?_); rintro e w4 ⟨rfl, hb⟩; refine ⟨_, rfl, ?_⟩; replace BK244 := (zK BK244 hb); replace HB := (zB hb); (try clear hb); (try clear hb2); (try clear hk); (try clear hi); obtain ⟨hcz5_0, hcz5_1, hcz5_2, hcz5_3⟩ := zc4 BK244; obtain ⟨hfz5_0, hfz5_1, hfz5_2, hfz5_3⟩ := zz4 BK244))
 refine bodyPost_ret (results_cell_row rfl _ _ gb244 26 #[.int .i64 1, .int .i64 t245, .string t246, .slice none 0 0] (0, 0) _ rfl zw Try.underlying26 rfl (by kernel_rfl)) rfl ?_; exact ⟨_, zr, by first | exact Kd.R_nil _ _ _ _ _ | exact Kd.N_nil _ _ _ _ _ | exact Kd.V_nil _ _ _ _ _ | exact Kd.Q_nil _ _ _ _ _ | exact Kd.S_nil _ _ _ _ _, zb⟩

end Go.Proofs.Ytnafnieocpkkhaa.P

namespace Go.Proofs.Ytnafnieocpkkhaa.P
open Go.RowKit Go.Proofs.YtnafnieocpkkhaaW.PrintWords Go.Proofs.YtnafnieocpkkhaaW.PrintLast Go.Proofs.YtnafnieocpkkhaaW.PrintMore
attribute [local go_sem] max2_int min2_int max_two min_two max_three min_three max_four min_four
set_option linter.unusedVariables false
set_option linter.unusedSimpArgs false

def marginalialaw05_sample.lf (k : Int) (b : UInt8) : S26 := ⟨1, ⟨k, ⟨#[b]⟩⟩, []⟩
def marginalialaw05_sample.nm (b : UInt8) : S26 := ⟨23, ⟨0, ⟨#[]⟩⟩, [marginalialaw05_sample.lf 3 b]⟩
def marginalialaw05_sample.ar : S26 := ⟨22, ⟨0, ⟨#[]⟩⟩, [marginalialaw05_sample.lf 7 40, marginalialaw05_sample.nm 120, marginalialaw05_sample.lf 1 32, marginalialaw05_sample.lf 7 41]⟩
def marginalialaw05_sample.kids : List (S26) := [marginalialaw05_sample.nm 102, marginalialaw05_sample.ar]
def marginalialaw05_sample.f : Option (Int × Int × ByteArray × List (S26)) := some (21, 0, ⟨#[]⟩, marginalialaw05_sample.kids)
theorem marginalialaw05_sample.l40 : marginalialaw05_leaf.f 60 ⟨#[40]⟩ = some (1, 7, ⟨#[40]⟩, []) := by kernel_rfl
theorem marginalialaw05_sample.l120 : marginalialaw05_leaf.f 60 ⟨#[120]⟩ = some (1, 3, ⟨#[120]⟩, []) := by kernel_rfl
theorem marginalialaw05_sample.l32 : marginalialaw05_leaf.f 60 ⟨#[32]⟩ = some (1, 1, ⟨#[32]⟩, []) := by kernel_rfl
theorem marginalialaw05_sample.l41 : marginalialaw05_leaf.f 60 ⟨#[41]⟩ = some (1, 7, ⟨#[41]⟩, []) := by kernel_rfl
theorem marginalialaw05_sample.l102 : marginalialaw05_leaf.f 60 ⟨#[102]⟩ = some (1, 3, ⟨#[102]⟩, []) := by kernel_rfl
/-- A literal of elements that the call has made. -/
theorem marginalialaw05_sample.lit {α : Type} (d : Kd α) {W : World} {base e : Nat} {xs : List α} {inner : List Value} (hrep : Reps (d.M W base (fun _ => True)) d.sz xs inner) (hbase : base ≤ W.heap.size) (hm : xs.length ≤ 1000) : d.R e (W.alloc (.cells inner.toArray e)) base (fun _ => True) (.slice (some ⟨W.heap.size, 0, none⟩) xs.length xs.length) xs := by
 refine ⟨fun _ _ => trivial, inner, ?_, ?_⟩
 ·have h2 := World.ownsRow_lit (base := base) (e := e) (size := d.sz) W inner.toArray xs.length hbase (by unfold maxLen; omega) (by simpa using hrep.1)
  simpa using h2
 ·refine hrep.imp_ (fun p c hp => d.M_mono (fun k hk => ⟨trivial, fun he => ?_⟩) (Kd.M_below (d.M_bound hp) (below_alloc (Below.refl _ _) _)))
  have h3 : k = W.heap.size := (by simpa [Value.ownBlock] using he)
  have := hk.2.2.1
  omega
/-- A leaf's cells, in a later world. -/
theorem marginalialaw05_sample.leafM {w W : World} {base : Nat} {k : Int} {b : UInt8} {v : Value} (h : Kd.R k26 26 w base (fun _ => True) v []) (hb : Below w.heap.size w W) : (k26).M W base (fun _ => True) (marginalialaw05_sample.lf k b) [.int .i64 1, .int .i64 k, .string ⟨#[b]⟩, v] := k26_mkM W base _ (marginalialaw05_sample.lf k b) (Kd.R_below h hb)
set_option maxHeartbeats 8000000 in
set_option maxRecDepth 100000 in
theorem marginalialaw05_sample.calls (r1 : Int) (r2 : Int) (r3 : ByteArray) (r4 : List (S26)) (w : World) (h : marginalialaw05_sample.f = some (r1, r2, r3, r4)) :
  Calls Try.prog 44 #[] w fun e w' => ∃ v3_ : Value, e = .returned (.agg #[.int .i64 r1, .int .i64 r2, .string r3, v3_]) ∧ Kd.R k26 26 w' w.heap.size (fun _ => True) v3_ r4 ∧ Below w.heap.size w w' := by
 have hu := Try.underlying26; simp only [marginalialaw05_sample.f, Option.some.injEq, Prod.mk.injEq] at h; obtain ⟨rfl, rfl, rfl, rfl⟩ := h; have HB0 := Aside0.mk (Below.refl (w.alloc (.cells #[.int .i64 0, .int .i64 0, .string (⟨#[]⟩ : ByteArray), .slice none 0 0] 26)).heap.size (w.alloc (.cells #[.int .i64 0, .int .i64 0, .string (⟨#[]⟩ : ByteArray), .slice none 0 0] 26))); have HG0 := Aside0.mk (blk_new w (.cells #[.int .i64 0, .int .i64 0, .string (⟨#[]⟩ : ByteArray), .slice none 0 0] 26))
 have HS0 : Aside0 ((w.alloc (.cells #[.int .i64 0, .int .i64 0, .string (⟨#[]⟩ : ByteArray), .slice none 0 0] 26)).heap.size = w.heap.size + 1) := ⟨by simp⟩
 have HWB := Aside0.mk (below_alloc (Below.refl w.heap.size w) (.cells #[.int .i64 0, .int .i64 0, .string (⟨#[]⟩ : ByteArray), .slice none 0 0] 26)); generalize hw0 : w.alloc (.cells #[.int .i64 0, .int .i64 0, .string (⟨#[]⟩ : ByteArray), .slice none 0 0] 26) = w0 at *; have HW0 := Aside0.mk hw0; clear hw0; go_enter Try.func44, Try.ntmps44
 go_upto_region 1 with fail
 rw [HW0.out]; go_wp2_with fail; refine (marginalialaw05_leaf.calls 60 _ _ _ _ _ _ marginalialaw05_sample.l40).mono ?_; rintro e w1 ⟨v, rfl, hR, hb⟩; obtain ⟨A1, c1, hv, _, _⟩ := Kd.R_reads hR; subst hv; have HR1_1 := Aside0.mk (Kd.R_lower hR HB0.out.size); have HB1 := Aside0.mk (token_good.step HB0.out hb); have HG1 := Aside0.mk (blk_below HG0.out hb); clear hR hb HB0 HG0; go_wp2_with fail; refine (marginalialaw05_leaf.calls 60 _ _ _ _ _ _ marginalialaw05_sample.l120).mono ?_; rintro e w2 ⟨v, rfl, hR, hb⟩; obtain ⟨A2, c2, hv, _, _⟩ := Kd.R_reads hR; subst hv; have HR2_2 := Aside0.mk (Kd.R_lower hR HB1.out.size); have HB2 := Aside0.mk (token_good.step HB1.out hb); have HG2 := Aside0.mk (blk_below HG1.out hb); have HR1_2 := Aside0.mk (Kd.R_below HR1_1.out hb); clear hR hb HB1 HG1 HR1_1; have HRx_2 := Aside0.mk (marginalialaw05_sample.lit (e := 26) k26 (W := w2) (base := w0.heap.size) (xs := [marginalialaw05_sample.lf 3 120]) (inner := [.int .i64 1, .int .i64 3, .string ⟨#[120]⟩, .slice A2 0 c2]) (show Reps _ 4 _ _ from by simpa using Reps.snoc (Reps.none _ _) (marginalialaw05_sample.leafM (b := 120) HR2_2.out (Below.refl _ _)) rfl) HB2.out.size (by simp)); go_wp2_with fail; refine (marginalialaw05_leaf.calls 60 _ _ _ _ _ _ marginalialaw05_sample.l32).mono ?_; rintro e w3 ⟨v, rfl, hR, hb⟩; obtain ⟨A3, c3, hv, _, _⟩ := Kd.R_reads hR; subst hv; have HR3_3 := Aside0.mk (Kd.R_lower hR (below_alloc HB2.out (.cells #[.int .i64 1, .int .i64 3, .string ⟨#[120]⟩, .slice A2 0 c2] 26)).size); have HB3 := Aside0.mk (token_good.step (below_alloc HB2.out (.cells #[.int .i64 1, .int .i64 3, .string ⟨#[120]⟩, .slice A2 0 c2] 26)) hb); have HG3 := Aside0.mk (blk_below (blk_alloc HG2.out (.cells #[.int .i64 1, .int .i64 3, .string ⟨#[120]⟩, .slice A2 0 c2] 26)) hb); have HR1_3 := Aside0.mk (Kd.R_below (Kd.R_alloc HR1_2.out (.cells #[.int .i64 1, .int .i64 3, .string ⟨#[120]⟩, .slice A2 0 c2] 26)) hb); have HRx_3 := Aside0.mk (Kd.R_below HRx_2.out hb); clear hR hb HB2 HG2 HR1_2 HRx_2; go_wp2_with fail; refine (marginalialaw05_leaf.calls 60 _ _ _ _ _ _ marginalialaw05_sample.l41).mono ?_; rintro e w4 ⟨v, rfl, hR, hb⟩; obtain ⟨A4, c4, hv, _, _⟩ := Kd.R_reads hR; subst hv; have HR4_4 := Aside0.mk (Kd.R_lower hR HB3.out.size); have HB4 := Aside0.mk (token_good.step HB3.out hb); have HG4 := Aside0.mk (blk_below HG3.out hb); have HR1_4 := Aside0.mk (Kd.R_below HR1_3.out hb); have HRx_4 := Aside0.mk (Kd.R_below HRx_3.out hb); have HR3_4 := Aside0.mk (Kd.R_below HR3_3.out hb); clear hR hb HB3 HG3 HR1_3 HRx_3 HR3_3; have HRy_4 := Aside0.mk (marginalialaw05_sample.lit (e := 26) k26 (W := w4) (base := w0.heap.size) (xs := marginalialaw05_sample.ar.f2) (inner := [.int .i64 1, .int .i64 7, .string ⟨#[40]⟩, .slice A1 0 c1, .int .i64 23, .int .i64 0, .string (⟨#[]⟩ : ByteArray), .slice (some ⟨w2.heap.size, 0, none⟩) 1 1, .int .i64 1, .int .i64 1, .string ⟨#[32]⟩, .slice A3 0 c3, .int .i64 1, .int .i64 7, .string ⟨#[41]⟩, .slice A4 0 c4]) (show Reps _ 4 _ _ from by simpa [marginalialaw05_sample.ar, marginalialaw05_sample.nm] using Reps.snoc (Reps.snoc (Reps.snoc (Reps.snoc (Reps.none _ _) (marginalialaw05_sample.leafM (b := 40) HR1_4.out (Below.refl _ _)) rfl) (k26_mkM w4 w0.heap.size _ (marginalialaw05_sample.nm 120) HRx_4.out) rfl) (marginalialaw05_sample.leafM (b := 32) HR3_4.out (Below.refl _ _)) rfl) (marginalialaw05_sample.leafM (b := 41) HR4_4.out (Below.refl _ _)) rfl) HB4.out.size (by simp [marginalialaw05_sample.ar])); go_wp2_with fail; have HB5 := Aside0.mk (below_alloc (below_alloc HB4.out (.cells #[.int .i64 1, .int .i64 7, .string ⟨#[40]⟩, .slice A1 0 c1, .int .i64 23, .int .i64 0, .string (⟨#[]⟩ : ByteArray), .slice (some ⟨w2.heap.size, 0, none⟩) 1 1, .int .i64 1, .int .i64 1, .string ⟨#[32]⟩, .slice A3 0 c3, .int .i64 1, .int .i64 7, .string ⟨#[41]⟩, .slice A4 0 c4] 26)) (.cells #[.int .i64 22, .int .i64 0, .string (⟨#[]⟩ : ByteArray), .slice (some ⟨w4.heap.size, 0, none⟩) 4 4] 26)); have HG5 := Aside0.mk (blk_alloc (blk_alloc HG4.out (.cells #[.int .i64 1, .int .i64 7, .string ⟨#[40]⟩, .slice A1 0 c1, .int .i64 23, .int .i64 0, .string (⟨#[]⟩ : ByteArray), .slice (some ⟨w2.heap.size, 0, none⟩) 1 1, .int .i64 1, .int .i64 1, .string ⟨#[32]⟩, .slice A3 0 c3, .int .i64 1, .int .i64 7, .string ⟨#[41]⟩, .slice A4 0 c4] 26)) (.cells #[.int .i64 22, .int .i64 0, .string (⟨#[]⟩ : ByteArray), .slice (some ⟨w4.heap.size, 0, none⟩) 4 4] 26))
 have HA5 : Aside0 (((w4.alloc (.cells #[.int .i64 1, .int .i64 7, .string ⟨#[40]⟩, .slice A1 0 c1, .int .i64 23, .int .i64 0, .string (⟨#[]⟩ : ByteArray), .slice (some ⟨w2.heap.size, 0, none⟩) 1 1, .int .i64 1, .int .i64 1, .string ⟨#[32]⟩, .slice A3 0 c3, .int .i64 1, .int .i64 7, .string ⟨#[41]⟩, .slice A4 0 c4] 26)).alloc (.cells #[.int .i64 22, .int .i64 0, .string (⟨#[]⟩ : ByteArray), .slice (some ⟨w4.heap.size, 0, none⟩) 4 4] 26)).heap[w4.heap.size + 1]? = some (.cells #[.int .i64 22, .int .i64 0, .string (⟨#[]⟩ : ByteArray), .slice (some ⟨w4.heap.size, 0, none⟩) 4 4] 26 (0, 0))) := ⟨by
  have := blk_new (w4.alloc (.cells #[.int .i64 1, .int .i64 7, .string ⟨#[40]⟩, .slice A1 0 c1, .int .i64 23, .int .i64 0, .string (⟨#[]⟩ : ByteArray), .slice (some ⟨w2.heap.size, 0, none⟩) 1 1, .int .i64 1, .int .i64 1, .string ⟨#[32]⟩, .slice A3 0 c3, .int .i64 1, .int .i64 7, .string ⟨#[41]⟩, .slice A4 0 c4] 26)) (.cells #[.int .i64 22, .int .i64 0, .string (⟨#[]⟩ : ByteArray), .slice (some ⟨w4.heap.size, 0, none⟩) 4 4] 26)
  simpa using this⟩
 have HR5 := Aside0.mk (Kd.R_alloc HRy_4.out (.cells #[.int .i64 22, .int .i64 0, .string (⟨#[]⟩ : ByteArray), .slice (some ⟨w4.heap.size, 0, none⟩) 4 4] 26)); clear HB4 HG4 HRy_4 HR1_4 HRx_4 HR3_4 HR4_4 HR2_2; generalize ((w4.alloc (.cells #[.int .i64 1, .int .i64 7, .string ⟨#[40]⟩, .slice A1 0 c1, .int .i64 23, .int .i64 0, .string (⟨#[]⟩ : ByteArray), .slice (some ⟨w2.heap.size, 0, none⟩) 1 1, .int .i64 1, .int .i64 1, .string ⟨#[32]⟩, .slice A3 0 c3, .int .i64 1, .int .i64 7, .string ⟨#[41]⟩, .slice A4 0 c4] 26)).alloc (.cells #[.int .i64 22, .int .i64 0, .string (⟨#[]⟩ : ByteArray), .slice (some ⟨w4.heap.size, 0, none⟩) 4 4] 26)) = W5 at *; have q0 : W5.cell? ⟨w4.heap.size + 1, 0, none⟩ = some (.int .i64 22) := Lib.cell_of_heap HA5.out 0; have q1 : W5.cell? ⟨w4.heap.size + 1, 1, none⟩ = some (.int .i64 0) := Lib.cell_of_heap HA5.out 1; have q2 : W5.cell? ⟨w4.heap.size + 1, 2, none⟩ = some (.string (⟨#[]⟩ : ByteArray)) := Lib.cell_of_heap HA5.out 2; have q3 : W5.cell? ⟨w4.heap.size + 1, 3, none⟩ = some (.slice (some ⟨w4.heap.size, 0, none⟩) 4 4) := Lib.cell_of_heap HA5.out 3
 go_region_law (go_simp; go_at_call 42; refine (marginalialaw05_leaf.calls 60 _ _ _ _ _ _ marginalialaw05_sample.l102).mono ?_; rintro e w6 ⟨v6, rfl, hR6, hb6⟩; obtain ⟨A6, c6, hv6, _, _⟩ := Kd.R_reads hR6; subst hv6; have hA6 := blk_below (blk_drew HA5.out) hb6; have hG6 := blk_alloc (blk_alloc (blk_below (blk_drew HG5.out) hb6) (.cells #[.int .i64 1, .int .i64 3, .string ⟨#[102]⟩, .slice A6 0 c6] 26)) (.cells #[.int .i64 23, .int .i64 0, .string (⟨#[]⟩ : ByteArray), .slice (some ⟨w6.heap.size, 0, none⟩) 1 1, .int .i64 22, .int .i64 0, .string (⟨#[]⟩ : ByteArray), .slice (some ⟨w4.heap.size, 0, none⟩) 4 4] 26); have p0 : w6.cell? ⟨w4.heap.size + 1, 0, none⟩ = some (.int .i64 22) := Lib.cell_of_heap hA6 0; have s0 : (w6.alloc (.cells #[.int .i64 1, .int .i64 3, .string ⟨#[102]⟩, .slice A6 0 c6] 26)).cell? ⟨w4.heap.size + 1, 0, none⟩ = some (.int .i64 22) := Lib.cell_of_heap (blk_alloc hA6 _) 0; have d0 : ((w6.alloc (.cells #[.int .i64 1, .int .i64 3, .string ⟨#[102]⟩, .slice A6 0 c6] 26)).alloc (.cells #[.int .i64 23, .int .i64 0, .string (⟨#[]⟩ : ByteArray), .slice (some ⟨w6.heap.size, 0, none⟩) 1 1, .int .i64 22, .int .i64 0, .string (⟨#[]⟩ : ByteArray), .slice (some ⟨w4.heap.size, 0, none⟩) 4 4] 26)).cell? ⟨w.heap.size, 0, none⟩ = some (.int .i64 0) := Lib.cell_of_heap hG6 0; have f0 := Lib.frozen_of_heap hG6 0; have p1 : w6.cell? ⟨w4.heap.size + 1, 1, none⟩ = some (.int .i64 0) := Lib.cell_of_heap hA6 1; have s1 : (w6.alloc (.cells #[.int .i64 1, .int .i64 3, .string ⟨#[102]⟩, .slice A6 0 c6] 26)).cell? ⟨w4.heap.size + 1, 1, none⟩ = some (.int .i64 0) := Lib.cell_of_heap (blk_alloc hA6 _) 1; have d1 : ((w6.alloc (.cells #[.int .i64 1, .int .i64 3, .string ⟨#[102]⟩, .slice A6 0 c6] 26)).alloc (.cells #[.int .i64 23, .int .i64 0, .string (⟨#[]⟩ : ByteArray), .slice (some ⟨w6.heap.size, 0, none⟩) 1 1, .int .i64 22, .int .i64 0, .string (⟨#[]⟩ : ByteArray), .slice (some ⟨w4.heap.size, 0, none⟩) 4 4] 26)).cell? ⟨w.heap.size, 1, none⟩ = some (.int .i64 0) := Lib.cell_of_heap hG6 1; have f1 := Lib.frozen_of_heap hG6 1; have p2 : w6.cell? ⟨w4.heap.size + 1, 2, none⟩ = some (.string (⟨#[]⟩ : ByteArray)) := Lib.cell_of_heap hA6 2; have s2 : (w6.alloc (.cells #[.int .i64 1, .int .i64 3, .string ⟨#[102]⟩, .slice A6 0 c6] 26)).cell? ⟨w4.heap.size + 1, 2, none⟩ = some (.string (⟨#[]⟩ : ByteArray)) := Lib.cell_of_heap (blk_alloc hA6 _) 2; have d2 : ((w6.alloc (.cells #[.int .i64 1, .int .i64 3, .string ⟨#[102]⟩, .slice A6 0 c6] 26)).alloc (.cells #[.int .i64 23, .int .i64 0, .string (⟨#[]⟩ : ByteArray), .slice (some ⟨w6.heap.size, 0, none⟩) 1 1, .int .i64 22, .int .i64 0, .string (⟨#[]⟩ : ByteArray), .slice (some ⟨w4.heap.size, 0, none⟩) 4 4] 26)).cell? ⟨w.heap.size, 2, none⟩ = some (.string (⟨#[]⟩ : ByteArray)) := Lib.cell_of_heap hG6 2; have f2 := Lib.frozen_of_heap hG6 2; have p3 : w6.cell? ⟨w4.heap.size + 1, 3, none⟩ = some (.slice (some ⟨w4.heap.size, 0, none⟩) 4 4) := Lib.cell_of_heap hA6 3; have s3 : (w6.alloc (.cells #[.int .i64 1, .int .i64 3, .string ⟨#[102]⟩, .slice A6 0 c6] 26)).cell? ⟨w4.heap.size + 1, 3, none⟩ = some (.slice (some ⟨w4.heap.size, 0, none⟩) 4 4) := Lib.cell_of_heap (blk_alloc hA6 _) 3; have d3 : ((w6.alloc (.cells #[.int .i64 1, .int .i64 3, .string ⟨#[102]⟩, .slice A6 0 c6] 26)).alloc (.cells #[.int .i64 23, .int .i64 0, .string (⟨#[]⟩ : ByteArray), .slice (some ⟨w6.heap.size, 0, none⟩) 1 1, .int .i64 22, .int .i64 0, .string (⟨#[]⟩ : ByteArray), .slice (some ⟨w4.heap.size, 0, none⟩) 4 4] 26)).cell? ⟨w.heap.size, 3, none⟩ = some (.slice none 0 0) := Lib.cell_of_heap hG6 3; have f3 := Lib.frozen_of_heap hG6 3)
 all_goals
  have HB6 := Aside0.mk (token_good.step (below_drew1 HB5.out) hb6); have HR6 := Aside0.mk (marginalialaw05_sample.lit (e := 26) k26 (W := w6) (base := w0.heap.size) (xs := [marginalialaw05_sample.lf 3 102]) (inner := [.int .i64 1, .int .i64 3, .string ⟨#[102]⟩, .slice A6 0 c6]) (show Reps _ 4 _ _ from by simpa using Reps.snoc (Reps.none _ _) (marginalialaw05_sample.leafM (b := 102) (Kd.R_lower hR6 (below_drew1 HB5.out).size) (Below.refl _ _)) rfl) HB6.out.size (by simp)); have HRy := Aside0.mk (Kd.R_alloc (Kd.R_below (Kd.R_drew HR5.out) hb6) (.cells #[.int .i64 1, .int .i64 3, .string ⟨#[102]⟩, .slice A6 0 c6] 26)); have HB7 := Aside0.mk (below_alloc HB6.out (.cells #[.int .i64 1, .int .i64 3, .string ⟨#[102]⟩, .slice A6 0 c6] 26))
  have HS7 : Aside0 ((w6.alloc (.cells #[.int .i64 1, .int .i64 3, .string ⟨#[102]⟩, .slice A6 0 c6] 26)).heap.size = w6.heap.size + 1) := ⟨by simp⟩
  have HK := Aside0.mk (marginalialaw05_sample.lit (e := 26) k26 (W := w6.alloc (.cells #[.int .i64 1, .int .i64 3, .string ⟨#[102]⟩, .slice A6 0 c6] 26)) (base := w0.heap.size) (xs := marginalialaw05_sample.kids) (inner := [.int .i64 23, .int .i64 0, .string (⟨#[]⟩ : ByteArray), .slice (some ⟨w6.heap.size, 0, none⟩) 1 1, .int .i64 22, .int .i64 0, .string (⟨#[]⟩ : ByteArray), .slice (some ⟨w4.heap.size, 0, none⟩) 4 4]) (show Reps _ 4 _ _ from by simpa [marginalialaw05_sample.kids, marginalialaw05_sample.ar, marginalialaw05_sample.nm] using Reps.snoc (Reps.snoc (Reps.none _ _) (k26_mkM (w6.alloc (.cells #[.int .i64 1, .int .i64 3, .string ⟨#[102]⟩, .slice A6 0 c6] 26)) w0.heap.size _ (marginalialaw05_sample.nm 102) HR6.out) rfl) (k26_mkM (w6.alloc (.cells #[.int .i64 1, .int .i64 3, .string ⟨#[102]⟩, .slice A6 0 c6] 26)) w0.heap.size _ marginalialaw05_sample.ar HRy.out) rfl) HB7.out.size (by simp [marginalialaw05_sample.kids])); have HGz := Aside0.mk hG6; go_wp2_with fail
  have HK2 : Kd.R k26 26 ((w6.alloc (.cells #[.int .i64 1, .int .i64 3, .string ⟨#[102]⟩, .slice A6 0 c6] 26)).alloc (.cells #[.int .i64 23, .int .i64 0, .string (⟨#[]⟩ : ByteArray), .slice (some ⟨w6.heap.size, 0, none⟩) 1 1, .int .i64 22, .int .i64 0, .string (⟨#[]⟩ : ByteArray), .slice (some ⟨w4.heap.size, 0, none⟩) 4 4] 26)) w0.heap.size (fun _ => True) (.slice (some ⟨w6.heap.size + 1, 0, none⟩) 2 2) marginalialaw05_sample.kids := by
   have hk := HK.out; rw [HS7.out] at hk; exact hk
  have hok : ∀ k, w0.heap.size ≤ k → k ≠ w.heap.size := fun k hk => by have := HS0.out; omega
  refine bodyPost_ret (results_cell_row rfl _ _ w.heap.size 26 #[.int .i64 21, .int .i64 0, .string (⟨#[]⟩ : ByteArray), .slice (some ⟨w6.heap.size + 1, 0, none⟩) 2 2] (0, 0) _ rfl (by refine blk_put (cs := #[.int .i64 21, .int .i64 0, .string (⟨#[]⟩ : ByteArray), .slice none 0 0]) ?_ 3 _ rfl; refine blk_put (cs := #[.int .i64 21, .int .i64 0, .string (⟨#[]⟩ : ByteArray), .slice none 0 0]) ?_ 2 _ rfl; refine blk_put (cs := #[.int .i64 21, .int .i64 0, .string (⟨#[]⟩ : ByteArray), .slice none 0 0]) ?_ 1 _ rfl; refine blk_put (cs := #[.int .i64 0, .int .i64 0, .string (⟨#[]⟩ : ByteArray), .slice none 0 0]) ?_ 0 _ rfl; exact HGz.out) Try.underlying26 rfl (by kernel_rfl)) rfl ?_; refine ⟨_, rfl, Kd.R_mono (Kd.R_lower (Kd.R_far (p := ⟨w.heap.size, 3, none⟩) (Kd.R_far (p := ⟨w.heap.size, 2, none⟩) (Kd.R_far (p := ⟨w.heap.size, 1, none⟩) (Kd.R_far (p := ⟨w.heap.size, 0, none⟩) (Kd.R_mono (Kd.R_bound HK2) (fun k hk => hk.2.1)) hok _) hok _) hok _) hok _) HWB.out.size) (fun _ _ => trivial), ?_⟩; exact below_set (below_set (below_set (below_set (HWB.out.trans ((below_alloc HB7.out (.cells #[.int .i64 23, .int .i64 0, .string (⟨#[]⟩ : ByteArray), .slice (some ⟨w6.heap.size, 0, none⟩) 1 1, .int .i64 22, .int .i64 0, .string (⟨#[]⟩ : ByteArray), .slice (some ⟨w4.heap.size, 0, none⟩) 4 4] 26)).mono HWB.out.size)) (Nat.le_refl _)) (Nat.le_refl _)) (Nat.le_refl _)) (Nat.le_refl _)


end Go.Proofs.Ytnafnieocpkkhaa.P

namespace Go.Proofs.Ytnafnieocpkkhaa.P
open Go.RowKit Go.Proofs.YtnafnieocpkkhaaW.PrintWords Go.Proofs.YtnafnieocpkkhaaW.PrintLast Go.Proofs.YtnafnieocpkkhaaW.PrintMore
attribute [local go_sem] max2_int min2_int max_two min_two max_three min_three max_four min_four
set_option linter.unusedVariables false
set_option linter.unusedSimpArgs false

def marginalialaw05_alive.f : Option (Bool) := some true
theorem marginalialaw05_alive.e1 : tree_Text.f 60 21 0 ⟨#[]⟩ marginalialaw05_sample.kids = some (⟨#[102, 40, 120, 32, 41]⟩, 0) := by kernel_rfl
theorem marginalialaw05_alive.e2 : tree_Find.f 60 21 0 ⟨#[]⟩ marginalialaw05_sample.kids 2 = some ([1, 1, 0], 0) := by kernel_rfl
theorem marginalialaw05_alive.e3 : tree_Cover.f 60 21 0 ⟨#[]⟩ marginalialaw05_sample.kids 2 4 = some ([1], 0) := by kernel_rfl
theorem marginalialaw05_alive.e4 : tree_Count.f 60 21 0 ⟨#[]⟩ marginalialaw05_sample.kids = some (9, 3, 0) := by kernel_rfl
theorem marginalialaw05_alive.e5 : tree_All.f 60 21 0 ⟨#[]⟩ marginalialaw05_sample.kids 23 = some ([[0], [1, 1]], 0) := by kernel_rfl
theorem marginalialaw05_alive.e6 : tree_IsFormed.f 60 21 0 ⟨#[]⟩ marginalialaw05_sample.kids = some true := by kernel_rfl
theorem marginalialaw05_alive.e7 : marginaliaref05_Ints.f 60 [1, 1, 0] [1, 1, 0] = some true := by kernel_rfl
theorem marginalialaw05_alive.e8 : marginaliaref05_Ints.f 60 [1] [1] = some true := by kernel_rfl
theorem marginalialaw05_alive.lit (W : World) (g : Nat) (l : List Int) (cs : Array Value) (hcs : cs = (l.map (Value.int .i64)).toArray) (hl : l.length ≤ 1000) (hb : W.heap[g]? = some (.cells cs 3 (0, 0))) : Kd.C (Kd.int .i64) W (some ⟨g, 0, none⟩) l.length l := by
 subst hcs; refine ⟨rfl, by omega, fun _ => ⟨_, rfl, fun j p hj => ⟨[.int .i64 p], rfl, rfl, fun i u hu => ?_⟩⟩⟩
 have hi : i = 0 := by
  rcases i with _ | i
  ·rfl
  ·simp at hu
 subst hi; simp only [List.getElem?_cons_zero, Option.some.injEq] at hu; subst hu; rw [show (⟨g, 0, none⟩ : Addr).add (j * (Kd.int .i64).sz + 0) = ⟨g, j, none⟩ by show (⟨g, 0, none⟩ : Addr).add (j * 1 + 0) = _; unfold Addr.add; simp; try omega, Lib.cell_of_heap hb]
 simp [hj]
set_option maxHeartbeats 8000000 in
set_option maxRecDepth 100000 in
theorem marginalialaw05_alive.calls (r : Bool) (w : World) (h : marginalialaw05_alive.f = some r) :
  Calls Try.prog 20 #[] w fun e w' => e = .returned (.bool r) ∧ Below w.heap.size w w' := by
 have hu := Try.underlying26; simp only [marginalialaw05_alive.f, Option.some.injEq] at h; subst h; have HB0 := Aside0.mk (Below.refl w.heap.size w); go_enter Try.func20, Try.ntmps20; go_wp2_with fail; refine (marginalialaw05_sample.calls _ _ _ _ _ rfl).mono ?_; rintro e w1 ⟨v, rfl, hN, hb⟩; have HB1 := Aside0.mk (token_good.step HB0.out hb); have HN := Aside0.mk hN; obtain ⟨A, c, hv, hc, hC⟩ := Kd.R_reads hN; subst hv; have HC := Aside0.mk hC; clear hb hN hC HB0; go_wp2_with fail; refine (tree_Text.calls 60 _ _ _ _ _ _ _ _ _ HC.out hc marginalialaw05_alive.e1).mono ?_; rintro e w2 ⟨rfl, hb⟩; have HB2 := Aside0.mk (token_good.step HB1.out hb); clear hb HB1 HN HC hc; go_wp2_with fail; refine (marginalialaw05_sample.calls _ _ _ _ _ rfl).mono ?_; rintro e w3 ⟨v, rfl, hN, hb⟩; have HB3 := Aside0.mk (token_good.step HB2.out hb); have HN := Aside0.mk hN; obtain ⟨A, c, hv, hc, hC⟩ := Kd.R_reads hN; subst hv; have HC := Aside0.mk hC; clear hb hN hC HB2; go_wp2_with fail; refine (tree_Find.calls 60 _ _ _ _ _ _ _ _ _ _ HC.out hc marginalialaw05_alive.e2).mono ?_; rintro e w4 ⟨v, rfl, hR, hb⟩; have HB4 := Aside0.mk (token_good.step HB3.out hb); obtain ⟨A3, c3, hv, hc3, hC3⟩ := Kd.R_reads hR; subst hv; have HC3 := Aside0.mk hC3; have T3_4 := Aside0.mk (Below.refl w4.heap.size w4); clear hR hC3 hb HB3 HN HC hc; go_wp2_with fail; refine (marginalialaw05_sample.calls _ _ _ _ _ rfl).mono ?_; rintro e w5 ⟨v, rfl, hN, hb⟩; have HB5 := Aside0.mk (token_good.step HB4.out hb); have T3_5 := Aside0.mk (token_good.step T3_4.out hb); have HN := Aside0.mk hN; obtain ⟨A, c, hv, hc, hC⟩ := Kd.R_reads hN; subst hv; have HC := Aside0.mk hC; clear hb hN hC HB4; go_wp2_with fail; refine (tree_Cover.calls 60 _ _ _ _ _ _ _ _ _ _ _ HC.out hc marginalialaw05_alive.e3).mono ?_; rintro e w6 ⟨v, rfl, hR, hb⟩; have HB6 := Aside0.mk (token_good.step HB5.out hb); have T3_6 := Aside0.mk (token_good.step T3_5.out hb); obtain ⟨A5, c5, hv, hc5, hC5⟩ := Kd.R_reads hR; subst hv; have HC5 := Aside0.mk hC5; have T5_6 := Aside0.mk (Below.refl w6.heap.size w6); clear hR hC5 hb HB5 HN HC hc; go_wp2_with fail; refine (marginalialaw05_sample.calls _ _ _ _ _ rfl).mono ?_; rintro e w7 ⟨v, rfl, hN, hb⟩; have HB7 := Aside0.mk (token_good.step HB6.out hb); have T3_7 := Aside0.mk (token_good.step T3_6.out hb); have T5_7 := Aside0.mk (token_good.step T5_6.out hb); have HN := Aside0.mk hN; obtain ⟨A, c, hv, hc, hC⟩ := Kd.R_reads hN; subst hv; have HC := Aside0.mk hC; clear hb hN hC HB6; go_wp2_with fail; refine (tree_Count.calls 60 _ _ _ _ _ _ _ _ _ _ HC.out hc marginalialaw05_alive.e4).mono ?_; rintro e w8 ⟨rfl, hb⟩; have HB8 := Aside0.mk (token_good.step HB7.out hb); have T3_8 := Aside0.mk (token_good.step T3_7.out hb); have T5_8 := Aside0.mk (token_good.step T5_7.out hb); clear hb HB7 HN HC hc; go_wp2_with fail; refine (marginalialaw05_sample.calls _ _ _ _ _ rfl).mono ?_; rintro e w9 ⟨v, rfl, hN, hb⟩; have HB9 := Aside0.mk (token_good.step HB8.out hb); have T3_9 := Aside0.mk (token_good.step T3_8.out hb); have T5_9 := Aside0.mk (token_good.step T5_8.out hb); have HN := Aside0.mk hN; obtain ⟨A, c, hv, hc, hC⟩ := Kd.R_reads hN; subst hv; have HC := Aside0.mk hC; clear hb hN hC HB8; go_wp2_with fail; refine (tree_All.calls 60 _ _ _ _ _ _ _ _ _ _ HC.out hc marginalialaw05_alive.e5).mono ?_; rintro e w10 ⟨v, rfl, hR, hb⟩; have HB10 := Aside0.mk (token_good.step HB9.out hb); have T3_10 := Aside0.mk (token_good.step T3_9.out hb); have T5_10 := Aside0.mk (token_good.step T5_9.out hb); obtain ⟨A7, c7, hv, _, _⟩ := Kd.R_reads hR; subst hv; clear hR hb HB9 HN HC hc; go_wp2_with fail; refine (marginalialaw05_sample.calls _ _ _ _ _ rfl).mono ?_; rintro e w11 ⟨v, rfl, hN, hb⟩; have HB11 := Aside0.mk (token_good.step HB10.out hb); have T3_11 := Aside0.mk (token_good.step T3_10.out hb); have T5_11 := Aside0.mk (token_good.step T5_10.out hb); have HN := Aside0.mk hN; obtain ⟨A, c, hv, hc, hC⟩ := Kd.R_reads hN; subst hv; have HC := Aside0.mk hC; clear hb hN hC HB10; go_wp2_with fail
 refine (tree_IsFormed.calls 60 _ _ _ _ _ _ _ _ HC.out hc marginalialaw05_alive.e6).mono ?_; rintro e w12 ⟨rfl, hb⟩; have HB12 := Aside0.mk (token_good.step HB11.out hb); have T3_12 := Aside0.mk (token_good.step T3_11.out hb); have T5_12 := Aside0.mk (token_good.step T5_11.out hb); clear hb HB11 HN HC hc; have HD3 := Aside0.mk (Kd.C_below HC3.out T3_12.out); have HD5 := Aside0.mk (Kd.C_below HC5.out T5_12.out); clear HC3 HC5 T3_12 T5_12; have h110 : ([1, 1, 0] : List Int).length = 3 := rfl; go_wp2_with fail; refine (marginaliaref05_Ints.calls 60 A3 c3 [1, 1, 0] (some ⟨w12.heap.size, 0, none⟩) 3 [1, 1, 0] true _ (Kd.C_below HD3.out (below_alloc (Below.refl _ _) _)) hc3 (marginalialaw05_alive.lit _ w12.heap.size [1, 1, 0] _ rfl (by simp) (blk_new _ _)) (Nat.le_refl _) marginalialaw05_alive.e7).mono ?_; rintro e w13 ⟨rfl, hd⟩; have hb := d0below hd; have HB13 := Aside0.mk (token_good.step (below_alloc HB12.out _) hb); have HE5 := Aside0.mk (Kd.C_below HD5.out (token_good.step (below_alloc (Below.refl w12.heap.size w12) _) hb)); clear hd hb HB12 HD3 HD5; go_wp2_with fail; refine (marginaliaref05_Ints.calls 60 A5 c5 [1] (some ⟨w13.heap.size, 0, none⟩) 1 [1] true _ (Kd.C_below HE5.out (below_alloc (Below.refl _ _) _)) hc5 (marginalialaw05_alive.lit _ w13.heap.size [1] _ rfl (by simp) (blk_new _ _)) (Nat.le_refl _) marginalialaw05_alive.e8).mono ?_; rintro e w14 ⟨rfl, hd⟩; have hb := d0below hd; have HB14 := Aside0.mk (token_good.step (below_alloc HB13.out _) hb); clear hd hb HB13 HE5; go_wp2_with fail; go_ret; exact ⟨rfl, HB14.out⟩

end Go.Proofs.Ytnafnieocpkkhaa.P

