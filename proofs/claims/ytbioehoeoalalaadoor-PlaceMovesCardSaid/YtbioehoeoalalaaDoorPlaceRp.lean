/- What Cut, Check, Move and Apply of layer 1 come to (as in RopeSp). -/
import Derived.Test.YtbioehoeoalalaaDoorPlaceA
import Derived.Test.YtbioehoeoalalaaDoorPx19
import Derived.Test.YtbioehoeoalalaaDoorPx20
import Derived.Test.YtbioehoeoalalaaDoorPx21
import Derived.Test.YtbioehoeoalalaaDoorPx18
import Derived.Test.YtbioehoeoalalaaDoorOp
set_option linter.unusedVariables false
set_option linter.unusedSimpArgs false
namespace Go.Proofs.YtbioehoeoalalaaDoor.P
open Go.RowKit Go.Proofs.YtbioehoeoalalaaDoorW.PrintWords Go.Proofs.YtbioehoeoalalaaDoorW.PrintLast Go.Proofs.YtbioehoeoalalaaDoorW.PrintMore
abbrev Ed := S73
theorem rd_at {l : List Ed} {i : Nat} {e : Ed} {r : List Ed} (h : l.drop i = e :: r) : rd_T73 l (i : Int) = e := by
  have h1 : l[i]? = some e := by
    have := congrArg (fun x : List Ed => x[0]?) h
    simpa [List.getElem?_drop] using this
  simp [rd_T73, List.getD_eq_getElem?_getD, h1]
theorem lt_of_drop {α : Type} {l : List α} {i : Nat} {e : α} {r : List α} (h : l.drop i = e :: r) : i < l.length := by
  have := congrArg List.length h
  simp at this
  omega
theorem drop_next {α : Type} {l : List α} {i : Nat} {e : α} {r : List α} (h : l.drop i = e :: r) : l.drop (i + 1) = r := by
  have := congrArg (List.drop 1) h
  simpa [List.drop_drop, Nat.add_comm] using this
theorem le_of_nil {α : Type} {l : List α} {i : Nat} (h : l.drop i = []) : l.length ≤ i := by
  have := congrArg List.length h
  simp at this
  omega

theorem mx_nat (a b : Nat) : mx (a : Int) (b : Int) = ((max a b : Nat) : Int) := by unfold mx; (repeat' split) <;> omega
/-- An edit whose numbers are ints. -/
def Ok (e : Ed) : Prop := (-9223372036854775808 ≤ e.f0 ∧ e.f0 ≤ 9223372036854775807) ∧ (-9223372036854775808 ≤ e.f1 ∧ e.f1 ≤ 9223372036854775807)
def cutE (n : Nat) (e : Ed) : Ed := ⟨e.f0, e.f1, e.f2.extract 0 (min e.f2.size n)⟩
def cut (n : Nat) (l : List Ed) : List Ed := (l.take 102).map (cutE n)
theorem Cut_loop (l : List Ed) (n : Nat) (hl : l.length ≤ 9223372036854775807) : ∀ (d i : Nat) (acc : List Ed), 102 - i = d → i ≤ 102 → acc.length ≤ 102 → acc.length = i →
    Ev (fun k => marginaliaref01_Cut.l0 k l (n : Int) acc (i : Int)) (acc ++ ((l.drop i).take (102 - i)).map (cutE n)) := by
  intro d
  induction d with
  | zero =>
    intro i acc hd hi ha hai
    refine Ev.shift ?_
    simp only [marginaliaref01_Cut.l0]
    rw [show 102 - i = 0 by omega]
    by_cases hlt : (i : Int) < (l.length : Int)
    · refine Ev.pos hlt (Ev.neg (by omega) ?_)
      simpa using Ev.now acc
    · refine Ev.neg hlt ?_
      simpa using Ev.now acc
  | succ d ih =>
    intro i acc hd hi ha hai
    refine Ev.shift ?_
    simp only [marginaliaref01_Cut.l0]
    cases hdr : l.drop i with
    | nil =>
      have := le_of_nil hdr
      refine Ev.neg (by omega) ?_
      simpa using Ev.now acc
    | cons e r =>
      have hlt := lt_of_drop hdr
      rw [rd_at hdr, mn_nat]
      refine Ev.pos (by omega) (Ev.pos (by omega) (Ev.pos (by omega) (Ev.pos (by omega) (Ev.pos (by omega) (Ev.pos (by omega) ?_)))))
      rw [w64 (by omega) (by omega)]
      have h := ih (i + 1) (acc ++ [cutE n e]) (by omega) (by omega) (by simp; omega) (by simp; omega)
      rw [drop_next hdr] at h
      rw [show 102 - i = (102 - (i + 1)) + 1 by omega]
      simpa [cutE] using h
theorem Cut_ev (l : List Ed) (n : Nat) (hl : l.length ≤ 9223372036854775807) : Ev (fun k => marginaliaref01_Cut.f k l (n : Int)) (cut n l) := by
  have h := Cut_loop l n hl 102 0 [] rfl (by omega) (by simp) rfl
  simpa [cut, marginaliaref01_Cut.f] using h
theorem cut_length (n : Nat) (l : List Ed) : (cut n l).length ≤ 102 := by simp [cut]; omega
/-- What Cut leaves. -/
def Fine (n : Nat) (l : List Ed) : Prop := l.length ≤ 102 ∧ ∀ e ∈ l, Ok e ∧ e.f2.size ≤ n
theorem cut_fine {n : Nat} {l : List Ed} (h : ∀ e ∈ l, ok73 e) : Fine n (cut n l) := by
  refine ⟨cut_length n l, fun e he => ?_⟩
  obtain ⟨x, hx, rfl⟩ := List.mem_map.1 he
  have := h x (List.mem_of_mem_take hx)
  refine ⟨⟨this.1, this.2.1⟩, ?_⟩
  simp only [cutE, ByteArray.size_extract]
  omega

/-! ### Check -/
def sp (m : Int) : Int → List Ed → Bool
  | _, [] => true
  | p, e :: r => decide (p ≤ e.f0) && (decide (e.f0 ≤ e.f1) && (decide (e.f1 ≤ m) && sp m e.f1 r))
theorem sp_cons {m p : Int} {e : Ed} {r : List Ed} (h : sp m p (e :: r) = true) : p ≤ e.f0 ∧ e.f0 ≤ e.f1 ∧ e.f1 ≤ m ∧ sp m e.f1 r = true := by
  simpa [sp] using h
def spanSum (l : List Ed) : Int := (l.map fun e => e.f1 - e.f0).sum
def newSum (l : List Ed) : Nat := (l.map fun e => e.f2.size).sum
theorem spanSum_cons (e : Ed) (r : List Ed) : spanSum (e :: r) = (e.f1 - e.f0) + spanSum r := by simp [spanSum]
theorem newSum_cons (e : Ed) (r : List Ed) : newSum (e :: r) = e.f2.size + newSum r := by simp [newSum]
theorem span_le {m : Int} : ∀ {p : Int} {l : List Ed}, sp m p l = true → p ≤ m → 0 ≤ spanSum l ∧ spanSum l ≤ m - p
  | p, [], _, hp => by simp [spanSum]; omega
  | p, e :: r, h, hp => by
    obtain ⟨h1, h2, h3, h4⟩ := sp_cons h
    have := span_le h4 h3
    rw [spanSum_cons]
    omega
theorem newSum_le {n : Nat} {l : List Ed} (h : ∀ e ∈ l, Ok e ∧ e.f2.size ≤ n) : newSum l ≤ l.length * n := by
  induction l with
  | nil => simp [newSum]
  | cons e r ih =>
    have h1 := (h e (by simp)).2
    have h2 := ih (fun x hx => h x (by simp [hx]))
    rw [newSum_cons, List.length_cons, Nat.add_mul, Nat.one_mul]
    omega
/-- Edits that are few, with News that are not long together. -/
def Fit (l : List Ed) : Prop := l.length ≤ 102 ∧ newSum l ≤ 1000000
theorem Fine.fit {n : Nat} {l : List Ed} (hf : Fine n l) (hn : n ≤ 9000) : Fit l := by
  have h1 := newSum_le hf.2
  have h2 : l.length * n ≤ 102 * 9000 := Nat.mul_le_mul hf.1 hn
  exact ⟨hf.1, by omega⟩
/-- The error of edits of a text of so many bytes. -/
def chk (n : Int) (l : List Ed) : Int :=
  if n > 20000 then 3 else if (l.length : Int) > 100 then 3 else if sp n 0 l = true then (if n - spanSum l + newSum l > 20000 then 7 else 0) else 2
theorem spans_loop (l : List Ed) (m : Int) (hl : l.length ≤ 9223372036854775807) : ∀ (r : List Ed) (i : Nat) (p : Int), l.drop i = r →
    Ev (fun k => rope_spans.l0 k m p l (l.length : Int) (i : Int)) (if sp m p r = true then 0 else 2) := by
  intro r
  induction r with
  | nil =>
    intro i p hd
    have := le_of_nil hd
    refine Ev.shift ?_
    simp only [rope_spans.l0]
    refine Ev.neg (by omega) ?_
    simpa [sp] using Ev.now (0 : Int)
  | cons e r ih =>
    intro i p hd
    have hlt := lt_of_drop hd
    refine Ev.shift ?_
    simp only [rope_spans.l0]
    rw [rd_at hd]
    refine Ev.pos (by omega) (Ev.pos (by omega) (Ev.pos (by omega) ?_))
    by_cases h1 : e.f0 < p
    · refine Ev.pos h1 ?_
      rw [if_neg (by simp [sp]; intro h; omega)]
      exact Ev.now _
    refine Ev.neg h1 ?_
    by_cases h2 : e.f1 < e.f0
    · refine Ev.pos h2 ?_
      rw [if_neg (by simp [sp]; intro _ h; omega)]
      exact Ev.now _
    refine Ev.neg h2 ?_
    by_cases h3 : e.f1 > m
    · refine Ev.pos h3 ?_
      rw [if_neg (by simp [sp]; intro _ _ h; omega)]
      exact Ev.now _
    refine Ev.neg h3 ?_
    rw [w64 (by omega) (by omega)]
    have h := ih (i + 1) e.f1 (drop_next hd)
    have e1 : sp m p (e :: r) = sp m e.f1 r := by
      simp only [sp]
      rw [decide_eq_true (by omega), decide_eq_true (by omega), decide_eq_true (by omega)]
      rfl
    rw [e1]
    simpa using h
theorem spans_ev (l : List Ed) (m : Int) (hl : l.length ≤ 9223372036854775807) : Ev (fun k => rope_spans.f k m l) (if (l.length : Int) > 100 then 3 else if sp m 0 l = true then 0 else 2) := by
  unfold rope_spans.f
  by_cases h : (l.length : Int) > 100
  · rw [if_pos h]
    exact Ev.pos h (Ev.now _)
  · rw [if_neg h]
    exact Ev.neg h (spans_loop l m hl l 0 0 rfl)
theorem check_l1 (l : List Ed) (hl : l.length ≤ 9223372036854775807) (hn : newSum l ≤ 1000000) : ∀ (r : List Ed) (i : Nat) (x : Int), l.drop i = r → 0 ≤ x → x ≤ 20000 → newSum r ≤ 1000000 →
    Ev (fun k => rope_check.l1 k x l (l.length : Int) (i : Int)) (if x + newSum r > 20000 then 7 else 0) := by
  intro r
  induction r with
  | nil =>
    intro i x hd hx hx2 _
    have := le_of_nil hd
    refine Ev.shift ?_
    simp only [rope_check.l1]
    refine Ev.neg (by omega) ?_
    rw [if_neg (by simp [newSum]; omega)]
    exact Ev.now _
  | cons e r ih =>
    intro i x hd hx hx2 hns
    have hlt := lt_of_drop hd
    rw [newSum_cons] at hns ⊢
    refine Ev.shift ?_
    simp only [rope_check.l1]
    rw [rd_at hd]
    refine Ev.pos (by omega) (Ev.pos (by omega) (Ev.pos (by omega) ?_))
    rw [w64 (n := 20000 - x) (by omega) (by omega)]
    by_cases h1 : (e.f2.size : Int) > 20000 - x
    · rw [if_pos (by omega)]
      exact Ev.pos h1 (Ev.now _)
    · refine Ev.neg h1 ?_
      rw [w64 (n := x + _) (by omega) (by omega), w64 (by omega) (by omega)]
      have h := ih (i + 1) (x + e.f2.size) (drop_next hd) (by omega) (by omega) (by omega)
      rw [show x + (e.f2.size : Int) + (newSum r : Int) = x + ((e.f2.size + newSum r : Nat) : Int) by omega] at h
      simpa using h
theorem check_l0 (l : List Ed) (m : Int) (hm : m ≤ 20000) (hl : l.length ≤ 9223372036854775807) (hn : newSum l ≤ 1000000) : ∀ (r : List Ed) (i : Nat) (x p : Int), l.drop i = r → sp m p r = true → 0 ≤ p → p ≤ m → spanSum r ≤ x → x ≤ 20000 →
    Ev (fun k => rope_check.l0 k l x l (l.length : Int) (i : Int)) (if x - spanSum r + newSum l > 20000 then 7 else 0) := by
  intro r
  induction r with
  | nil =>
    intro i x p hd hs hp hp2 hx hx2
    have := le_of_nil hd
    refine Ev.shift ?_
    simp only [rope_check.l0]
    refine Ev.neg (by omega) ?_
    have hz : spanSum ([] : List Ed) = 0 := by simp [spanSum]
    rw [hz] at hx ⊢
    have h := check_l1 l hl hn l 0 x rfl hx hx2 hn
    simpa using h
  | cons e r ih =>
    intro i x p hd hs hp hp2 hx hx2
    have hlt := lt_of_drop hd
    obtain ⟨h1, h2, h3, h4⟩ := sp_cons hs
    have h5 := span_le h4 h3
    rw [spanSum_cons] at hx ⊢
    refine Ev.shift ?_
    simp only [rope_check.l0]
    rw [rd_at hd]
    refine Ev.pos (by omega) (Ev.pos (by omega) (Ev.pos (by omega) ?_))
    rw [w64 (n := e.f0 - e.f1) (by omega) (by omega), w64 (n := x + _) (by omega) (by omega), w64 (by omega) (by omega)]
    have h := ih (i + 1) (x + (e.f0 - e.f1)) e.f1 (drop_next hd) h4 (by omega) h3 (by omega) (by omega)
    rw [show x + (e.f0 - e.f1) - spanSum r = x - (e.f1 - e.f0 + spanSum r) by omega] at h
    simpa using h
theorem check_ev (s : ByteArray) (l : List Ed) (hs : s.size ≤ 9223372036854775807) (hf : Fit l) : Ev (fun k => rope_Check.f k s l) (chk s.size l) := by
  have hl : l.length ≤ 9223372036854775807 := by have := hf.1; omega
  have hns : newSum l ≤ 1000000 := hf.2
  unfold rope_Check.f chk
  by_cases h1 : (s.size : Int) > 20000
  · rw [if_pos h1]
    exact Ev.pos h1 (Ev.now _)
  rw [if_neg h1]
  refine Ev.neg h1 (Ev.bind (a := _) ?_ (Ev.now _))
  unfold rope_check.f
  refine Ev.bind (spans_ev l s.size hl) ?_
  by_cases h2 : (l.length : Int) > 100
  · simp only [if_pos h2]
    exact Ev.neg (by decide) (Ev.now _)
  simp only [if_neg h2]
  by_cases h3 : sp s.size 0 l = true
  · simp only [if_pos h3]
    have h4 := span_le h3 (by omega)
    exact Ev.pos (by simp) (check_l0 l s.size (by omega) hl hns l 0 s.size 0 rfl h3 (by omega) (by omega) (by omega) (by omega))
  · simp only [if_neg h3]
    exact Ev.neg (by decide) (Ev.now _)
theorem rcheck_loop (s : ByteArray) (l : List Ed) (hs : s.size ≤ 20000) (hl : l.length ≤ 9223372036854775807) : ∀ (r : List Ed) (i : Nat) (p x : Int), l.drop i = r → 0 ≤ p → p ≤ s.size → s.size - p ≤ x → x + newSum r ≤ 2000000 →
    Ev (fun k => marginaliaref01_Check.l0 k s l p x (i : Int)) (if sp s.size p r = true then (if x - spanSum r + newSum r > 20000 then 7 else 0) else 2) := by
  intro r
  induction r with
  | nil =>
    intro i p x hd hp hp2 hx hx2
    have := le_of_nil hd
    refine Ev.shift ?_
    simp only [marginaliaref01_Check.l0]
    refine Ev.neg (by omega) ?_
    by_cases h : x > 20000
    · refine Ev.pos h ?_
      simpa [sp, spanSum, newSum, h] using Ev.now (7 : Int)
    · refine Ev.neg h ?_
      simpa [sp, spanSum, newSum, h] using Ev.now (0 : Int)
  | cons e r ih =>
    intro i p x hd hp hp2 hx hx2
    have hlt := lt_of_drop hd
    rw [newSum_cons] at hx2
    refine Ev.shift ?_
    simp only [marginaliaref01_Check.l0]
    rw [rd_at hd]
    refine Ev.pos (by omega) (Ev.pos (by omega) ?_)
    by_cases h1 : e.f0 < p
    · refine Ev.pos h1 ?_
      rw [if_neg (by simp [sp]; intro h; omega)]
      exact Ev.now _
    refine Ev.neg h1 ?_
    by_cases h2 : e.f1 < e.f0
    · refine Ev.pos h2 ?_
      rw [if_neg (by simp [sp]; intro _ h; omega)]
      exact Ev.now _
    refine Ev.neg h2 ?_
    by_cases h3 : e.f1 > s.size
    · refine Ev.pos h3 ?_
      rw [if_neg (by simp [sp]; intro _ _ h; omega)]
      exact Ev.now _
    refine Ev.neg h3 ?_
    rw [w64 (n := e.f1 - e.f0) (by omega) (by omega), w64 (n := (e.f2.size : Int) - _) (by omega) (by omega), w64 (n := x + _) (by omega) (by omega), w64 (by omega) (by omega)]
    have h := ih (i + 1) e.f1 (x + ((e.f2.size : Int) - (e.f1 - e.f0))) (drop_next hd) (by omega) (by omega) (by omega) (by omega)
    have e1 : sp s.size p (e :: r) = sp s.size e.f1 r := by
      simp only [sp]
      rw [decide_eq_true (by omega), decide_eq_true (by omega), decide_eq_true (by omega)]
      rfl
    rw [e1, spanSum_cons, newSum_cons]
    rw [show x + ((e.f2.size : Int) - (e.f1 - e.f0)) - spanSum r + (newSum r : Int) = x - (e.f1 - e.f0 + spanSum r) + ((e.f2.size + newSum r : Nat) : Int) by omega] at h
    simpa using h
theorem rcheck_ev (s : ByteArray) (l : List Ed) (hs : s.size ≤ 9223372036854775807) (hf : Fit l) : Ev (fun k => marginaliaref01_Check.f k s l) (chk s.size l) := by
  have hl : l.length ≤ 9223372036854775807 := by have := hf.1; omega
  have hns : newSum l ≤ 1000000 := hf.2
  unfold marginaliaref01_Check.f chk
  by_cases h1 : (s.size : Int) > 20000
  · simp only [if_pos h1]
    refine Ev.shift ?_
    simp only [marginaliaref01_Check.j0]
    exact Ev.pos (by simp) (Ev.now _)
  simp only [if_neg h1]
  refine Ev.shift ?_
  simp only [marginaliaref01_Check.j0]
  by_cases h2 : (l.length : Int) > 100
  · simp only [if_pos h2]
    exact Ev.pos (decide_eq_true h2) (Ev.now _)
  simp only [if_neg h2]
  refine Ev.neg (by simpa using h2) ?_
  exact rcheck_loop s l (by omega) hl l 0 0 s.size rfl (by omega) (by omega) (by omega) (by omega)
/-- What a check that passed says. -/
theorem chk_ok {n : Int} {l : List Ed} (h : chk n l = 0) : n ≤ 20000 ∧ l.length ≤ 100 ∧ sp n 0 l = true ∧ n - spanSum l + newSum l ≤ 20000 := by
  unfold chk at h
  split at h
  · cases h
  split at h
  · cases h
  split at h
  · split at h
    · cases h
    · exact ⟨by omega, by omega, by assumption, by omega⟩
  · cases h
/-! ### Move -/
def grow (e : Ed) : Int := (e.f2.size : Int) - (e.f1 - e.f0)
def mv (o : Int) (after : Bool) : Int → List Ed → Int
  | b, [] => o + b
  | b, e :: r => if e.f0 > o ∨ (e.f0 = o ∧ e.f1 > o) ∨ (e.f0 = o ∧ e.f1 = o ∧ after = false) then o + b else if e.f1 > o then e.f0 + b + e.f2.size else mv o after (b + grow e) r
theorem move_loop (o : Int) (after : Bool) (l : List Ed) (hl : l.length ≤ 102) (ho : 0 ≤ o) (ho2 : o ≤ 20000) : ∀ (r : List Ed) (i : Nat) (p b : Int), l.drop i = r → sp 20000 p r = true → 0 ≤ p → p ≤ 20000 → -p ≤ b → b + newSum r ≤ 2000000 →
    Ev (fun k => rope_Move.l0 k o after b l (l.length : Int) (i : Int)) (mv o after b r, 0) := by
  intro r
  induction r with
  | nil =>
    intro i p b hd hs hp hp2 hb hb2
    have := le_of_nil hd
    refine Ev.shift ?_
    simp only [rope_Move.l0]
    refine Ev.neg (by omega) ?_
    rw [w64 (by omega) (by omega)]
    exact Ev.now _
  | cons e r ih =>
    intro i p b hd hs hp hp2 hb hb2
    have hlt := lt_of_drop hd
    obtain ⟨h1, h2, h3, h4⟩ := sp_cons hs
    rw [newSum_cons] at hb2
    have key : ∀ (c : Bool), c = decide (e.f0 > o ∨ (e.f0 = o ∧ e.f1 > o) ∨ (e.f0 = o ∧ e.f1 = o ∧ after = false)) →
        Ev (fun k => rope_Move.j2 k o after b l (l.length : Int) (i : Int) c e.f0 e.f1 e.f2) (mv o after b (e :: r), 0) := by
      intro c hc
      refine Ev.shift ?_
      simp only [rope_Move.j2]
      by_cases g : e.f0 > o ∨ (e.f0 = o ∧ e.f1 > o) ∨ (e.f0 = o ∧ e.f1 = o ∧ after = false)
      · rw [decide_eq_true g] at hc
        refine Ev.pos hc ?_
        rw [w64 (by omega) (by omega)]
        simp only [mv, if_pos g]
        exact Ev.now _
      · rw [decide_eq_false g] at hc
        refine Ev.neg (by simp [hc]) ?_
        simp only [mv, if_neg g]
        by_cases g2 : e.f1 > o
        · refine Ev.pos g2 ?_
          rw [w64 (n := e.f0 + b) (by omega) (by omega), w64 (by omega) (by omega)]
          simp only [if_pos g2]
          exact Ev.now _
        · refine Ev.neg g2 ?_
          simp only [if_neg g2]
          rw [w64 (n := e.f1 - e.f0) (by omega) (by omega), w64 (n := (e.f2.size : Int) - _) (by omega) (by omega), w64 (n := b + _) (by omega) (by omega), w64 (by omega) (by omega)]
          have h := ih (i + 1) e.f1 (b + grow e) (drop_next hd) h4 (by omega) h3 (by unfold grow; omega) (by unfold grow; omega)
          simpa [grow] using h
    refine Ev.shift ?_
    simp only [rope_Move.l0]
    rw [rd_at hd]
    refine Ev.pos (by omega) (Ev.pos (by omega) (Ev.pos (by omega) ?_))
    by_cases g1 : e.f0 > o
    · exact Ev.pos g1 (key _ (by rw [decide_eq_true g1, decide_eq_true (.inl g1)]))
    refine Ev.neg g1 ?_
    by_cases g2 : e.f0 = o
    · refine Ev.pos g2 ?_
      by_cases g3 : e.f1 > o
      · exact Ev.pos g3 (key _ (by rw [decide_eq_true g3, decide_eq_true (.inr (.inl ⟨g2, g3⟩))]))
      refine Ev.neg g3 ?_
      have g4 : e.f1 = o := by omega
      refine Ev.pos g4 (key _ ?_)
      cases after
      · rw [decide_eq_true (.inr (.inr ⟨g2, g4, rfl⟩))]; rfl
      · rw [decide_eq_false (by rintro (h | h | h) <;> first | omega | simp_all)]; rfl
    · refine Ev.neg g2 ?_
      have hf : decide (e.f0 > o ∨ (e.f0 = o ∧ e.f1 > o) ∨ (e.f0 = o ∧ e.f1 = o ∧ after = false)) = false := decide_eq_false (by rintro (h | h | h) <;> first | omega | exact g2 h.1)
      by_cases g3 : e.f1 = o
      · exact Ev.pos g3 (key _ hf.symm)
      · exact Ev.neg g3 (key _ hf.symm)
/-- The error of Move. -/
def mvErr (l : List Ed) (o : Int) : Int := if (l.length : Int) > 100 then 3 else if sp 20000 0 l = true then (if o < 0 ∨ o > 20000 then 2 else 0) else 2
theorem move_ev (l : List Ed) (o : Int) (after : Bool) (hf : Fit l) : Ev (fun k => rope_Move.f k l o after) (if mvErr l o = 0 then mv o after 0 l else 0, mvErr l o) := by
  have hl := hf.1
  have hns : newSum l ≤ 1000000 := hf.2
  unfold rope_Move.f mvErr
  refine Ev.bind (spans_ev l 20000 (by omega)) ?_
  by_cases h2 : (l.length : Int) > 100
  · simp only [if_pos h2]
    exact Ev.neg (by decide) (Ev.now _)
  simp only [if_neg h2]
  by_cases h3 : sp 20000 0 l = true
  · simp only [if_pos h3]
    refine Ev.pos (by simp) ?_
    by_cases h4 : o < 0
    · simp only [if_pos (show o < 0 ∨ o > 20000 from .inl h4)]
      refine Ev.pos h4 (Ev.shift ?_)
      simp only [rope_Move.j0]
      exact Ev.pos (by simp) (Ev.now _)
    refine Ev.neg h4 (Ev.shift ?_)
    simp only [rope_Move.j0]
    by_cases h5 : o > 20000
    · simp only [if_pos (show o < 0 ∨ o > 20000 from .inr h5)]
      exact Ev.pos (decide_eq_true h5) (Ev.now _)
    · simp only [if_neg (show ¬ (o < 0 ∨ o > 20000) by omega)]
      exact Ev.neg (by simpa using h5) (move_loop o after l hl (by omega) (by omega) l 0 0 0 rfl h3 (by omega) (by omega) (by omega) (by omega))
  · simp only [if_neg h3]
    exact Ev.neg (by decide) (Ev.now _)
theorem rmove_tail (o : Int) (after : Bool) (l : List Ed) (hl : l.length ≤ 102) (ho : 0 ≤ o) (ho2 : o ≤ 20000) (b : Int) (hb : -100000 ≤ b) (hb2 : b ≤ 2000000) : ∀ (r : List Ed) (i : Nat) (p : Int), l.drop i = r → sp 20000 p r = true → (o < p ∨ (o ≤ p ∧ after = false)) →
    Ev (fun k => marginaliaref01_Move.l0 k l o after b (i : Int)) (o + b) := by
  intro r
  induction r with
  | nil =>
    intro i p hd hs hp
    have := le_of_nil hd
    refine Ev.shift ?_
    simp only [marginaliaref01_Move.l0]
    refine Ev.neg (by omega) ?_
    rw [w64 (by omega) (by omega)]
    exact Ev.now _
  | cons e r ih =>
    intro i p hd hs hp
    have hlt := lt_of_drop hd
    obtain ⟨h1, h2, h3, h4⟩ := sp_cons hs
    have hnext := ih (i + 1) e.f1 (drop_next hd) h4 (by rcases hp with hp | hp; exact .inl (by omega); exact .inr ⟨by omega, hp.2⟩)
    refine Ev.shift ?_
    simp only [marginaliaref01_Move.l0]
    rw [rd_at hd]
    refine Ev.pos (by omega) (Ev.pos (by omega) (Ev.neg (by omega) (Ev.shift ?_)))
    simp only [marginaliaref01_Move.j1]
    refine Ev.neg (by simp) (Ev.neg (by omega) ?_)
    rw [w64 (n := (i : Int) + 1) (by omega) (by omega)]
    by_cases g1 : e.f1 = o
    · refine Ev.pos g1 (Ev.neg (by omega) (Ev.pos (by omega) (Ev.neg (by rcases hp with hp | hp; omega; simp [hp.2]) ?_)))
      simpa using hnext
    · refine Ev.neg g1 ?_
      by_cases g2 : e.f0 = o
      · refine Ev.pos g2 ?_
        simpa using hnext
      · refine Ev.neg g2 ?_
        simpa using hnext
theorem rmove_loop (o : Int) (after : Bool) (l : List Ed) (hl : l.length ≤ 102) (ho : 0 ≤ o) (ho2 : o ≤ 20000) : ∀ (r : List Ed) (i : Nat) (p b : Int), l.drop i = r → sp 20000 p r = true → 0 ≤ p → p ≤ 20000 → -p ≤ b → b + newSum r ≤ 2000000 →
    Ev (fun k => marginaliaref01_Move.l0 k l o after b (i : Int)) (mv o after b r) := by
  intro r
  induction r with
  | nil =>
    intro i p b hd hs hp hp2 hb hb2
    have := le_of_nil hd
    refine Ev.shift ?_
    simp only [marginaliaref01_Move.l0]
    refine Ev.neg (by omega) ?_
    rw [w64 (by omega) (by omega)]
    exact Ev.now _
  | cons e r ih =>
    intro i p b hd hs hp hp2 hb hb2
    by_cases g : e.f0 > o ∨ (e.f0 = o ∧ e.f1 > o) ∨ (e.f0 = o ∧ e.f1 = o ∧ after = false)
    · simp only [mv, if_pos g]
      have hs' := hs
      obtain ⟨h1, h2, h3, h4⟩ := sp_cons hs
      rw [newSum_cons] at hb2
      have hlt := lt_of_drop hd
      have hnext := rmove_tail o after l hl ho ho2 b (by omega) (by omega) r (i + 1) e.f1 (drop_next hd) h4 (by rcases g with g | g | g; exact .inl (by omega); exact .inl (by omega); exact .inr ⟨by omega, g.2.2⟩)
      refine Ev.shift ?_
      simp only [marginaliaref01_Move.l0]
      rw [rd_at hd]
      refine Ev.pos (by omega) (Ev.pos (by omega) (Ev.neg (by omega) (Ev.shift ?_)))
      simp only [marginaliaref01_Move.j1]
      refine Ev.neg (by simp) (Ev.neg (by omega) ?_)
      rw [w64 (n := (i : Int) + 1) (by omega) (by omega)]
      by_cases g1 : e.f1 = o
      · refine Ev.pos g1 (Ev.neg (by omega) (Ev.pos (by omega) (Ev.neg (by rcases g with g | g | g; omega; omega; simp [g.2.2]) ?_)))
        simpa using hnext
      · refine Ev.neg g1 ?_
        by_cases g2 : e.f0 = o
        · refine Ev.pos g2 ?_
          simpa using hnext
        · refine Ev.neg g2 ?_
          simpa using hnext
    · simp only [mv, if_neg g]
      have hlt := lt_of_drop hd
      obtain ⟨h1, h2, h3, h4⟩ := sp_cons hs
      rw [newSum_cons] at hb2
      have hgo : e.f1 ≤ o → Ev (fun k => marginaliaref01_Move.l0 k l o after (wrap64 (b + wrap64 ((e.f2.size : Int) - wrap64 (e.f1 - e.f0)))) (wrap64 ((i : Int) + 1))) (mv o after (b + grow e) r) := by
        intro _
        rw [w64 (n := e.f1 - e.f0) (by omega) (by omega), w64 (n := (e.f2.size : Int) - _) (by omega) (by omega), w64 (n := b + _) (by omega) (by omega), w64 (by omega) (by omega)]
        have h := ih (i + 1) e.f1 (b + grow e) (drop_next hd) h4 (by omega) h3 (by unfold grow; omega) (by unfold grow; omega)
        simpa [grow] using h
      refine Ev.shift ?_
      simp only [marginaliaref01_Move.l0]
      rw [rd_at hd]
      refine Ev.pos (by omega) (Ev.pos (by omega) ?_)
      by_cases g0 : e.f0 < o
      · refine Ev.pos g0 (Ev.shift ?_)
        simp only [marginaliaref01_Move.j1]
        by_cases g2 : e.f1 > o
        · refine Ev.pos (decide_eq_true g2) ?_
          rw [w64 (n := e.f0 + b) (by omega) (by omega), w64 (by omega) (by omega)]
          simp only [if_pos g2]
          exact Ev.now _
        · simp only [if_neg g2]
          refine Ev.neg (by simpa using g2) ?_
          by_cases g3 : e.f1 < o
          · exact Ev.pos g3 (hgo (by omega))
          · exact Ev.neg g3 (Ev.pos (by omega) (Ev.pos g0 (hgo (by omega))))
      · have g5 : e.f0 = o ∧ e.f1 = o ∧ after = true := by
          have a1 : ¬ e.f0 > o := fun h => g (.inl h)
          have a2 : ¬ (e.f0 = o ∧ e.f1 > o) := fun h => g (.inr (.inl h))
          have a3 : e.f0 = o := by omega
          have a4 : e.f1 = o := by
            rcases Int.lt_or_le o e.f1 with h | h
            · exact absurd ⟨a3, h⟩ a2
            · omega
          refine ⟨a3, a4, ?_⟩
          cases after
          · exact absurd (.inr (.inr ⟨a3, a4, rfl⟩)) g
          · rfl
        refine Ev.neg g0 (Ev.shift ?_)
        simp only [marginaliaref01_Move.j1]
        simp only [if_neg (show ¬ e.f1 > o by omega)]
        exact Ev.neg (by simp) (Ev.neg (by omega) (Ev.pos g5.2.1 (Ev.neg (by omega) (Ev.pos g5.1 (Ev.pos g5.2.2 (hgo (by omega)))))))
/-! ### Apply -/
def ba (l : List UInt8) : ByteArray := ⟨l.toArray⟩
def cutS (s : ByteArray) (a b : Int) : List UInt8 := (s.extract a.toNat b.toNat).data.toList
theorem ba_size (l : List UInt8) : (ba l).size = l.length := by simp [ba, ByteArray.size]
theorem ba_list (l : List UInt8) : (ba l).data.toList = l := by simp [ba]
theorem list_ba (s : ByteArray) : ba s.data.toList = s := by
  apply ByteArray.ext
  simp [ba]
theorem ba_append (l : List UInt8) (s : ByteArray) : ba l ++ s = ba (l ++ s.data.toList) := by
  apply ByteArray.ext
  simp [ba]
theorem cutS_eq (s : ByteArray) (a b : Int) : cutS s a b = (s.data.toList.take b.toNat).drop a.toNat := by
  rw [cutS, ByteArray.data_extract, Array.toList_extract, List.extract_eq_take_drop, List.drop_take]
theorem cutS_length (s : ByteArray) (a b : Int) : (cutS s a b).length = min b.toNat s.size - a.toNat := by
  rw [cutS, Ut.size_data, ByteArray.size_extract]
def app (s : ByteArray) : Int → List Ed → List UInt8
  | p, [] => cutS s p s.size
  | p, e :: r => cutS s p e.f0 ++ e.f2.data.toList ++ app s e.f1 r
theorem app_length (s : ByteArray) : ∀ (l : List Ed) (p : Int), sp s.size p l = true → 0 ≤ p → p ≤ s.size → ((app s p l).length : Int) = s.size - p - spanSum l + newSum l
  | [], p, _, h0, h1 => by
    simp only [app, cutS_length, spanSum, newSum, List.map_nil, List.sum_nil]
    omega
  | e :: r, p, h, h0, h1 => by
    obtain ⟨h2, h3, h4, h5⟩ := sp_cons h
    have := app_length s r e.f1 h5 (by omega) h4
    rw [spanSum_cons, newSum_cons]
    simp only [app, List.length_append, cutS_length, Ut.size_data]
    omega
theorem go_eq (s : ByteArray) : ∀ (l : List Ed) (p : Int) (acc : List UInt8), sp s.size p l = true → 0 ≤ p → p ≤ s.size → acc.length + (app s p l).length ≤ 140737488355328 → rope_Apply.go s l p acc = some (acc ++ app s p l)
  | [], p, acc, _, h0, h1, hb => by
    have e : (s.extract p.toNat s.size).data.toList = app s p [] := by simp [app, cutS]
    have e2 : (s.extract p.toNat s.size).size = (app s p []).length := by rw [← e, Ut.size_data]
    unfold rope_Apply.go
    rw [if_pos h0, if_pos h1, e2, if_pos hb, e]
  | e :: r, p, acc, h, h0, h1, hb => by
    obtain ⟨h2, h3, h4, h5⟩ := sp_cons h
    have e1 : (s.extract p.toNat e.f0.toNat).data.toList = cutS s p e.f0 := rfl
    have e2 : (s.extract p.toNat e.f0.toNat).size = (cutS s p e.f0).length := by rw [← e1, Ut.size_data]
    simp only [app, List.length_append, Ut.size_data] at hb
    unfold rope_Apply.go
    rw [if_pos h0, if_pos h2, if_pos (by omega), e2, if_pos (by omega), e1, go_eq s r e.f1 _ h5 (by omega) h4 (by simp only [List.length_append, Ut.size_data]; omega)]
    simp [app]
theorem apply_ev (s : ByteArray) (l : List Ed) (hs : s.size ≤ 9223372036854775807) (hf : Fit l) : Ev (fun k => rope_Apply.f k s l) (if chk s.size l = 0 then ba (app s 0 l) else ⟨#[]⟩, chk s.size l) := by
  unfold rope_Apply.f
  refine Ev.bind (check_ev s l hs hf) ?_
  by_cases h : chk s.size l = 0
  · obtain ⟨h1, h2, h3, h4⟩ := chk_ok h
    have h5 := app_length s l 0 h3 (by omega) (by omega)
    rw [go_eq s l 0 [] h3 (by omega) (by omega) (by simp only [List.length_nil]; omega)]
    simp only [if_pos h, h]
    exact Ev.now _
  · simp only [if_neg h]
    exact Ev.now _
theorem rapply_loop (s : ByteArray) (l : List Ed) (hs : s.size ≤ 20000) (hl : l.length ≤ 102) : ∀ (r : List Ed) (i : Nat) (p : Int) (acc : List UInt8), l.drop i = r → sp s.size p r = true → 0 ≤ p → p ≤ s.size → acc.length + (app s p r).length ≤ 1000000 →
    Ev (fun k => marginaliaref01_Apply.l0 k s l (ba acc) p (i : Int)) (ba (acc ++ app s p r)) := by
  intro r
  induction r with
  | nil =>
    intro i p acc hd hsp h0 h1 hb
    have := le_of_nil hd
    have e : (s.extract p.toNat s.size).data.toList = app s p [] := by simp [app, cutS]
    have e2 : (s.extract p.toNat s.size).size = (app s p []).length := by rw [← e, Ut.size_data]
    refine Ev.shift ?_
    simp only [marginaliaref01_Apply.l0]
    refine Ev.neg (by omega) (Ev.pos h0 (Ev.pos h1 ?_))
    rw [ba_size, e2, ba_append, e]
    exact Ev.pos (by omega) (Ev.now _)
  | cons e r ih =>
    intro i p acc hd hsp h0 h1 hb
    have hlt := lt_of_drop hd
    obtain ⟨h2, h3, h4, h5⟩ := sp_cons hsp
    have e1 : (s.extract p.toNat e.f0.toNat).data.toList = cutS s p e.f0 := rfl
    have e2 : (s.extract p.toNat e.f0.toNat).size = (cutS s p e.f0).length := by rw [← e1, Ut.size_data]
    simp only [app, List.length_append, Ut.size_data] at hb
    refine Ev.shift ?_
    simp only [marginaliaref01_Apply.l0]
    rw [rd_at hd, ba_append, ba_append, ba_size, ba_size, e1, e2]
    refine Ev.pos (by omega) (Ev.pos (by omega) (Ev.pos h0 (Ev.pos h2 (Ev.pos (by omega) (Ev.pos (by omega) (Ev.pos (by simp only [List.length_append]; omega) ?_))))))
    rw [w64 (by omega) (by omega)]
    have h := ih (i + 1) e.f1 (acc ++ cutS s p e.f0 ++ e.f2.data.toList) (drop_next hd) h5 (by omega) h4 (by simp only [List.length_append, Ut.size_data]; omega)
    simpa [app] using h
theorem rapply_ev (s : ByteArray) (l : List Ed) (h : chk s.size l = 0) : Ev (fun k => marginaliaref01_Apply.f k s l) (ba (app s 0 l)) := by
  obtain ⟨h1, h2, h3, h4⟩ := chk_ok h
  have h5 := app_length s l 0 h3 (by omega) (by omega)
  have := rapply_loop s l (by omega) (by omega) l 0 0 [] rfl h3 (by omega) (by omega) (by simp only [List.length_nil]; omega)
  exact this

end Go.Proofs.YtbioehoeoalalaaDoor.P
