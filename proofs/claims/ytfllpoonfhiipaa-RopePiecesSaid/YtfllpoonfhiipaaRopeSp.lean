/- What the printed functions of rope and marginaliaref01 come to: plain functions on lists. -/
import Derived.Test.YtfllpoonfhiipaaPx11
import Derived.Test.YtfllpoonfhiipaaUt
import Derived.Test.YtfllpoonfhiipaaOp
set_option linter.unusedVariables false
set_option linter.unusedSimpArgs false
namespace Go.Proofs.Ytfllpoonfhiipaa.P
open Go.RowKit Go.Proofs.YtfllpoonfhiipaaW.PrintWords Go.Proofs.YtfllpoonfhiipaaW.PrintLast Go.Proofs.YtfllpoonfhiipaaW.PrintMore
/-! ### rounds -/
theorem Ev.shift {α : Type} {g : Nat → Option α} {r : α} (h : Ev (fun k => g (k + 1)) r) : Ev g r := Ev.step (fun _ => rfl) h
theorem Ev.pos {α : Type} {c : Prop} [Decidable c] {f g : Nat → Option α} {r : α} (h : c) (k : Ev f r) : Ev (fun n => if c then f n else g n) r := by
  simp only [if_pos h]
  exact k
theorem Ev.neg {α : Type} {c : Prop} [Decidable c] {f g : Nat → Option α} {r : α} (h : ¬ c) (k : Ev g r) : Ev (fun n => if c then f n else g n) r := by
  simp only [if_neg h]
  exact k
theorem Ev.bind1 {α β : Type} {o : Option α} {f : Nat → α → Option β} {a : α} {r : β} (h : o = some a) (k : Ev (fun n => f n a) r) : Ev (fun n => o.bind (f n)) r := by
  rw [h]
  exact k
theorem Ev.uniq {α : Type} {g : Nat → Option α} {r q : α} (h : Ev g r) (h' : Ev g q) : r = q := by
  obtain ⟨K, hK⟩ := h
  obtain ⟨L, hL⟩ := h'
  have a := hK (max K L) (Nat.le_max_left _ _)
  have b := hL (max K L) (Nat.le_max_right _ _)
  rw [a] at b
  injection b
theorem w64 {n : Int} (h : -9223372036854775808 ≤ n) (h' : n ≤ 9223372036854775807) : wrap64 n = n := by unfold wrap64; omega
abbrev Ed := S47
theorem rd_at {l : List Ed} {i : Nat} {e : Ed} {r : List Ed} (h : l.drop i = e :: r) : rd_T47 l (i : Int) = e := by
  have h1 : l[i]? = some e := by
    have := congrArg (fun x : List Ed => x[0]?) h
    simpa [List.getElem?_drop] using this
  simp [rd_T47, List.getD_eq_getElem?_getD, h1]
theorem lt_of_drop {α : Type} {l : List α} {i : Nat} {e : α} {r : List α} (h : l.drop i = e :: r) : i < l.length := by
  have := congrArg List.length h
  simp at this
  omega
theorem drop_next {α : Type} {l : List α} {i : Nat} {e : α} {r : List α} (h : l.drop i = e :: r) : l.drop (i + 1) = r := by
  have := congrArg (List.drop 1) h
  simpa [List.drop_drop, Nat.add_comm] using this
theorem le_of_nil {α : Type} {l : List α} {i : Nat} (h : l.drop i = []) : l.length ≤ i := by
  have := congrArg List.length h
  simp at this
  omega

/-! ### Short, Cut -/
theorem mn_nat (a b : Nat) : mn (a : Int) (b : Int) = ((min a b : Nat) : Int) := by unfold mn; (repeat' split) <;> omega
theorem mx_nat (a b : Nat) : mx (a : Int) (b : Int) = ((max a b : Nat) : Int) := by unfold mx; (repeat' split) <;> omega
def short (s : ByteArray) : ByteArray := s.extract 0 (min s.size 20001)
theorem Short_eq (s : ByteArray) : marginaliaref01_Short.f s = some (short s) := by
  have h : mn (s.size : Int) 20001 = ((min s.size 20001 : Nat) : Int) := mn_nat s.size 20001
  unfold marginaliaref01_Short.f
  rw [h, if_pos (by omega), if_pos (by omega)]
  simp [short]
theorem short_size (s : ByteArray) : (short s).size ≤ 20001 := by
  simp only [short, ByteArray.size_extract]
  omega
/-- An edit whose numbers are ints. -/
def Ok (e : Ed) : Prop := (-9223372036854775808 ≤ e.f0 ∧ e.f0 ≤ 9223372036854775807) ∧ (-9223372036854775808 ≤ e.f1 ∧ e.f1 ≤ 9223372036854775807)
def cutE (n : Nat) (e : Ed) : Ed := ⟨e.f0, e.f1, e.f2.extract 0 (min e.f2.size n)⟩
def cut (n : Nat) (l : List Ed) : List Ed := (l.take 102).map (cutE n)
theorem Cut_loop (l : List Ed) (n : Nat) (hl : l.length ≤ 9223372036854775807) : ∀ (d i : Nat) (acc : List Ed), 102 - i = d → i ≤ 102 → acc.length ≤ 102 → acc.length = i →
    Ev (fun k => marginaliaref01_Cut.l0 k l (n : Int) acc (i : Int)) (acc ++ ((l.drop i).take (102 - i)).map (cutE n)) := by
  intro d
  induction d with
  | zero =>
    intro i acc hd hi ha hai
    refine Ev.shift ?_
    simp only [marginaliaref01_Cut.l0]
    rw [show 102 - i = 0 by omega]
    by_cases hlt : (i : Int) < (l.length : Int)
    · refine Ev.pos hlt (Ev.neg (by omega) ?_)
      simpa using Ev.now acc
    · refine Ev.neg hlt ?_
      simpa using Ev.now acc
  | succ d ih =>
    intro i acc hd hi ha hai
    refine Ev.shift ?_
    simp only [marginaliaref01_Cut.l0]
    cases hdr : l.drop i with
    | nil =>
      have := le_of_nil hdr
      refine Ev.neg (by omega) ?_
      simpa using Ev.now acc
    | cons e r =>
      have hlt := lt_of_drop hdr
      rw [rd_at hdr, mn_nat]
      refine Ev.pos (by omega) (Ev.pos (by omega) (Ev.pos (by omega) (Ev.pos (by omega) (Ev.pos (by omega) (Ev.pos (by omega) ?_)))))
      rw [w64 (by omega) (by omega)]
      have h := ih (i + 1) (acc ++ [cutE n e]) (by omega) (by omega) (by simp; omega) (by simp; omega)
      rw [drop_next hdr] at h
      rw [show 102 - i = (102 - (i + 1)) + 1 by omega]
      simpa [cutE] using h
theorem Cut_ev (l : List Ed) (n : Nat) (hl : l.length ≤ 9223372036854775807) : Ev (fun k => marginaliaref01_Cut.f k l (n : Int)) (cut n l) := by
  have h := Cut_loop l n hl 102 0 [] rfl (by omega) (by simp) rfl
  simpa [cut, marginaliaref01_Cut.f] using h
theorem cut_length (n : Nat) (l : List Ed) : (cut n l).length ≤ 102 := by simp [cut]; omega
/-- What Cut leaves. -/
def Fine (n : Nat) (l : List Ed) : Prop := l.length ≤ 102 ∧ ∀ e ∈ l, Ok e ∧ e.f2.size ≤ n
theorem cut_fine {n : Nat} {l : List Ed} (h : ∀ e ∈ l, ok47 e) : Fine n (cut n l) := by
  refine ⟨cut_length n l, fun e he => ?_⟩
  obtain ⟨x, hx, rfl⟩ := List.mem_map.1 he
  have := h x (List.mem_of_mem_take hx)
  refine ⟨⟨this.1, this.2.1⟩, ?_⟩
  simp only [cutE, ByteArray.size_extract]
  omega

/-! ### Check -/
def sp (m : Int) : Int → List Ed → Bool
  | _, [] => true
  | p, e :: r => decide (p ≤ e.f0) && (decide (e.f0 ≤ e.f1) && (decide (e.f1 ≤ m) && sp m e.f1 r))
theorem sp_cons {m p : Int} {e : Ed} {r : List Ed} (h : sp m p (e :: r) = true) : p ≤ e.f0 ∧ e.f0 ≤ e.f1 ∧ e.f1 ≤ m ∧ sp m e.f1 r = true := by
  simpa [sp] using h
def spanSum (l : List Ed) : Int := (l.map fun e => e.f1 - e.f0).sum
def newSum (l : List Ed) : Nat := (l.map fun e => e.f2.size).sum
theorem spanSum_cons (e : Ed) (r : List Ed) : spanSum (e :: r) = (e.f1 - e.f0) + spanSum r := by simp [spanSum]
theorem newSum_cons (e : Ed) (r : List Ed) : newSum (e :: r) = e.f2.size + newSum r := by simp [newSum]
theorem span_le {m : Int} : ∀ {p : Int} {l : List Ed}, sp m p l = true → p ≤ m → 0 ≤ spanSum l ∧ spanSum l ≤ m - p
  | p, [], _, hp => by simp [spanSum]; omega
  | p, e :: r, h, hp => by
    obtain ⟨h1, h2, h3, h4⟩ := sp_cons h
    have := span_le h4 h3
    rw [spanSum_cons]
    omega
theorem newSum_le {n : Nat} {l : List Ed} (h : ∀ e ∈ l, Ok e ∧ e.f2.size ≤ n) : newSum l ≤ l.length * n := by
  induction l with
  | nil => simp [newSum]
  | cons e r ih =>
    have h1 := (h e (by simp)).2
    have h2 := ih (fun x hx => h x (by simp [hx]))
    rw [newSum_cons, List.length_cons, Nat.add_mul, Nat.one_mul]
    omega
/-- Edits that are few, with News that are not long together. -/
def Fit (l : List Ed) : Prop := l.length ≤ 102 ∧ newSum l ≤ 1000000
theorem Fine.fit {n : Nat} {l : List Ed} (hf : Fine n l) (hn : n ≤ 9000) : Fit l := by
  have h1 := newSum_le hf.2
  have h2 : l.length * n ≤ 102 * 9000 := Nat.mul_le_mul hf.1 hn
  exact ⟨hf.1, by omega⟩
/-- The error of edits of a text of so many bytes. -/
def chk (n : Int) (l : List Ed) : Int :=
  if n > 20000 then 3 else if (l.length : Int) > 100 then 3 else if sp n 0 l = true then (if n - spanSum l + newSum l > 20000 then 7 else 0) else 2
theorem spans_loop (l : List Ed) (m : Int) (hl : l.length ≤ 9223372036854775807) : ∀ (r : List Ed) (i : Nat) (p : Int), l.drop i = r →
    Ev (fun k => rope_spans.l0 k m p l (l.length : Int) (i : Int)) (if sp m p r = true then 0 else 2) := by
  intro r
  induction r with
  | nil =>
    intro i p hd
    have := le_of_nil hd
    refine Ev.shift ?_
    simp only [rope_spans.l0]
    refine Ev.neg (by omega) ?_
    simpa [sp] using Ev.now (0 : Int)
  | cons e r ih =>
    intro i p hd
    have hlt := lt_of_drop hd
    refine Ev.shift ?_
    simp only [rope_spans.l0]
    rw [rd_at hd]
    refine Ev.pos (by omega) (Ev.pos (by omega) (Ev.pos (by omega) ?_))
    by_cases h1 : e.f0 < p
    · refine Ev.pos h1 ?_
      rw [if_neg (by simp [sp]; intro h; omega)]
      exact Ev.now _
    refine Ev.neg h1 ?_
    by_cases h2 : e.f1 < e.f0
    · refine Ev.pos h2 ?_
      rw [if_neg (by simp [sp]; intro _ h; omega)]
      exact Ev.now _
    refine Ev.neg h2 ?_
    by_cases h3 : e.f1 > m
    · refine Ev.pos h3 ?_
      rw [if_neg (by simp [sp]; intro _ _ h; omega)]
      exact Ev.now _
    refine Ev.neg h3 ?_
    rw [w64 (by omega) (by omega)]
    have h := ih (i + 1) e.f1 (drop_next hd)
    have e1 : sp m p (e :: r) = sp m e.f1 r := by
      simp only [sp]
      rw [decide_eq_true (by omega), decide_eq_true (by omega), decide_eq_true (by omega)]
      rfl
    rw [e1]
    simpa using h
theorem spans_ev (l : List Ed) (m : Int) (hl : l.length ≤ 9223372036854775807) : Ev (fun k => rope_spans.f k m l) (if (l.length : Int) > 100 then 3 else if sp m 0 l = true then 0 else 2) := by
  unfold rope_spans.f
  by_cases h : (l.length : Int) > 100
  · rw [if_pos h]
    exact Ev.pos h (Ev.now _)
  · rw [if_neg h]
    exact Ev.neg h (spans_loop l m hl l 0 0 rfl)
theorem check_l1 (l : List Ed) (hl : l.length ≤ 9223372036854775807) (hn : newSum l ≤ 1000000) : ∀ (r : List Ed) (i : Nat) (x : Int), l.drop i = r → 0 ≤ x → x ≤ 20000 → newSum r ≤ 1000000 →
    Ev (fun k => rope_check.l1 k x l (l.length : Int) (i : Int)) (if x + newSum r > 20000 then 7 else 0) := by
  intro r
  induction r with
  | nil =>
    intro i x hd hx hx2 _
    have := le_of_nil hd
    refine Ev.shift ?_
    simp only [rope_check.l1]
    refine Ev.neg (by omega) ?_
    rw [if_neg (by simp [newSum]; omega)]
    exact Ev.now _
  | cons e r ih =>
    intro i x hd hx hx2 hns
    have hlt := lt_of_drop hd
    rw [newSum_cons] at hns ⊢
    refine Ev.shift ?_
    simp only [rope_check.l1]
    rw [rd_at hd]
    refine Ev.pos (by omega) (Ev.pos (by omega) (Ev.pos (by omega) ?_))
    rw [w64 (n := 20000 - x) (by omega) (by omega)]
    by_cases h1 : (e.f2.size : Int) > 20000 - x
    · rw [if_pos (by omega)]
      exact Ev.pos h1 (Ev.now _)
    · refine Ev.neg h1 ?_
      rw [w64 (n := x + _) (by omega) (by omega), w64 (by omega) (by omega)]
      have h := ih (i + 1) (x + e.f2.size) (drop_next hd) (by omega) (by omega) (by omega)
      rw [show x + (e.f2.size : Int) + (newSum r : Int) = x + ((e.f2.size + newSum r : Nat) : Int) by omega] at h
      simpa using h
theorem check_l0 (l : List Ed) (m : Int) (hm : m ≤ 20000) (hl : l.length ≤ 9223372036854775807) (hn : newSum l ≤ 1000000) : ∀ (r : List Ed) (i : Nat) (x p : Int), l.drop i = r → sp m p r = true → 0 ≤ p → p ≤ m → spanSum r ≤ x → x ≤ 20000 →
    Ev (fun k => rope_check.l0 k l x l (l.length : Int) (i : Int)) (if x - spanSum r + newSum l > 20000 then 7 else 0) := by
  intro r
  induction r with
  | nil =>
    intro i x p hd hs hp hp2 hx hx2
    have := le_of_nil hd
    refine Ev.shift ?_
    simp only [rope_check.l0]
    refine Ev.neg (by omega) ?_
    have hz : spanSum ([] : List Ed) = 0 := by simp [spanSum]
    rw [hz] at hx ⊢
    have h := check_l1 l hl hn l 0 x rfl hx hx2 hn
    simpa using h
  | cons e r ih =>
    intro i x p hd hs hp hp2 hx hx2
    have hlt := lt_of_drop hd
    obtain ⟨h1, h2, h3, h4⟩ := sp_cons hs
    have h5 := span_le h4 h3
    rw [spanSum_cons] at hx ⊢
    refine Ev.shift ?_
    simp only [rope_check.l0]
    rw [rd_at hd]
    refine Ev.pos (by omega) (Ev.pos (by omega) (Ev.pos (by omega) ?_))
    rw [w64 (n := e.f0 - e.f1) (by omega) (by omega), w64 (n := x + _) (by omega) (by omega), w64 (by omega) (by omega)]
    have h := ih (i + 1) (x + (e.f0 - e.f1)) e.f1 (drop_next hd) h4 (by omega) h3 (by omega) (by omega)
    rw [show x + (e.f0 - e.f1) - spanSum r = x - (e.f1 - e.f0 + spanSum r) by omega] at h
    simpa using h
theorem check_ev (s : ByteArray) (l : List Ed) (hs : s.size ≤ 9223372036854775807) (hf : Fit l) : Ev (fun k => rope_Check.f k s l) (chk s.size l) := by
  have hl : l.length ≤ 9223372036854775807 := by have := hf.1; omega
  have hns : newSum l ≤ 1000000 := hf.2
  unfold rope_Check.f chk
  by_cases h1 : (s.size : Int) > 20000
  · rw [if_pos h1]
    exact Ev.pos h1 (Ev.now _)
  rw [if_neg h1]
  refine Ev.neg h1 (Ev.bind (a := _) ?_ (Ev.now _))
  unfold rope_check.f
  refine Ev.bind (spans_ev l s.size hl) ?_
  by_cases h2 : (l.length : Int) > 100
  · simp only [if_pos h2]
    exact Ev.neg (by decide) (Ev.now _)
  simp only [if_neg h2]
  by_cases h3 : sp s.size 0 l = true
  · simp only [if_pos h3]
    have h4 := span_le h3 (by omega)
    exact Ev.pos (by simp) (check_l0 l s.size (by omega) hl hns l 0 s.size 0 rfl h3 (by omega) (by omega) (by omega) (by omega))
  · simp only [if_neg h3]
    exact Ev.neg (by decide) (Ev.now _)
theorem rcheck_loop (s : ByteArray) (l : List Ed) (hs : s.size ≤ 20000) (hl : l.length ≤ 9223372036854775807) : ∀ (r : List Ed) (i : Nat) (p x : Int), l.drop i = r → 0 ≤ p → p ≤ s.size → s.size - p ≤ x → x + newSum r ≤ 2000000 →
    Ev (fun k => marginaliaref01_Check.l0 k s l p x (i : Int)) (if sp s.size p r = true then (if x - spanSum r + newSum r > 20000 then 7 else 0) else 2) := by
  intro r
  induction r with
  | nil =>
    intro i p x hd hp hp2 hx hx2
    have := le_of_nil hd
    refine Ev.shift ?_
    simp only [marginaliaref01_Check.l0]
    refine Ev.neg (by omega) ?_
    by_cases h : x > 20000
    · refine Ev.pos h ?_
      simpa [sp, spanSum, newSum, h] using Ev.now (7 : Int)
    · refine Ev.neg h ?_
      simpa [sp, spanSum, newSum, h] using Ev.now (0 : Int)
  | cons e r ih =>
    intro i p x hd hp hp2 hx hx2
    have hlt := lt_of_drop hd
    rw [newSum_cons] at hx2
    refine Ev.shift ?_
    simp only [marginaliaref01_Check.l0]
    rw [rd_at hd]
    refine Ev.pos (by omega) (Ev.pos (by omega) ?_)
    by_cases h1 : e.f0 < p
    · refine Ev.pos h1 ?_
      rw [if_neg (by simp [sp]; intro h; omega)]
      exact Ev.now _
    refine Ev.neg h1 ?_
    by_cases h2 : e.f1 < e.f0
    · refine Ev.pos h2 ?_
      rw [if_neg (by simp [sp]; intro _ h; omega)]
      exact Ev.now _
    refine Ev.neg h2 ?_
    by_cases h3 : e.f1 > s.size
    · refine Ev.pos h3 ?_
      rw [if_neg (by simp [sp]; intro _ _ h; omega)]
      exact Ev.now _
    refine Ev.neg h3 ?_
    rw [w64 (n := e.f1 - e.f0) (by omega) (by omega), w64 (n := (e.f2.size : Int) - _) (by omega) (by omega), w64 (n := x + _) (by omega) (by omega), w64 (by omega) (by omega)]
    have h := ih (i + 1) e.f1 (x + ((e.f2.size : Int) - (e.f1 - e.f0))) (drop_next hd) (by omega) (by omega) (by omega) (by omega)
    have e1 : sp s.size p (e :: r) = sp s.size e.f1 r := by
      simp only [sp]
      rw [decide_eq_true (by omega), decide_eq_true (by omega), decide_eq_true (by omega)]
      rfl
    rw [e1, spanSum_cons, newSum_cons]
    rw [show x + ((e.f2.size : Int) - (e.f1 - e.f0)) - spanSum r + (newSum r : Int) = x - (e.f1 - e.f0 + spanSum r) + ((e.f2.size + newSum r : Nat) : Int) by omega] at h
    simpa using h
theorem rcheck_ev (s : ByteArray) (l : List Ed) (hs : s.size ≤ 9223372036854775807) (hf : Fit l) : Ev (fun k => marginaliaref01_Check.f k s l) (chk s.size l) := by
  have hl : l.length ≤ 9223372036854775807 := by have := hf.1; omega
  have hns : newSum l ≤ 1000000 := hf.2
  unfold marginaliaref01_Check.f chk
  by_cases h1 : (s.size : Int) > 20000
  · simp only [if_pos h1]
    refine Ev.shift ?_
    simp only [marginaliaref01_Check.j0]
    exact Ev.pos (by simp) (Ev.now _)
  simp only [if_neg h1]
  refine Ev.shift ?_
  simp only [marginaliaref01_Check.j0]
  by_cases h2 : (l.length : Int) > 100
  · simp only [if_pos h2]
    exact Ev.pos (decide_eq_true h2) (Ev.now _)
  simp only [if_neg h2]
  refine Ev.neg (by simpa using h2) ?_
  exact rcheck_loop s l (by omega) hl l 0 0 s.size rfl (by omega) (by omega) (by omega) (by omega)
/-- What a check that passed says. -/
theorem chk_ok {n : Int} {l : List Ed} (h : chk n l = 0) : n ≤ 20000 ∧ l.length ≤ 100 ∧ sp n 0 l = true ∧ n - spanSum l + newSum l ≤ 20000 := by
  unfold chk at h
  split at h
  · cases h
  split at h
  · cases h
  split at h
  · split at h
    · cases h
    · exact ⟨by omega, by omega, by assumption, by omega⟩
  · cases h
/-! ### Move -/
def grow (e : Ed) : Int := (e.f2.size : Int) - (e.f1 - e.f0)
def mv (o : Int) (after : Bool) : Int → List Ed → Int
  | b, [] => o + b
  | b, e :: r => if e.f0 > o ∨ (e.f0 = o ∧ e.f1 > o) ∨ (e.f0 = o ∧ e.f1 = o ∧ after = false) then o + b else if e.f1 > o then e.f0 + b + e.f2.size else mv o after (b + grow e) r
theorem move_loop (o : Int) (after : Bool) (l : List Ed) (hl : l.length ≤ 102) (ho : 0 ≤ o) (ho2 : o ≤ 20000) : ∀ (r : List Ed) (i : Nat) (p b : Int), l.drop i = r → sp 20000 p r = true → 0 ≤ p → p ≤ 20000 → -p ≤ b → b + newSum r ≤ 2000000 →
    Ev (fun k => rope_Move.l0 k o after b l (l.length : Int) (i : Int)) (mv o after b r, 0) := by
  intro r
  induction r with
  | nil =>
    intro i p b hd hs hp hp2 hb hb2
    have := le_of_nil hd
    refine Ev.shift ?_
    simp only [rope_Move.l0]
    refine Ev.neg (by omega) ?_
    rw [w64 (by omega) (by omega)]
    exact Ev.now _
  | cons e r ih =>
    intro i p b hd hs hp hp2 hb hb2
    have hlt := lt_of_drop hd
    obtain ⟨h1, h2, h3, h4⟩ := sp_cons hs
    rw [newSum_cons] at hb2
    have key : ∀ (c : Bool), c = decide (e.f0 > o ∨ (e.f0 = o ∧ e.f1 > o) ∨ (e.f0 = o ∧ e.f1 = o ∧ after = false)) →
        Ev (fun k => rope_Move.j2 k o after b l (l.length : Int) (i : Int) c e.f0 e.f1 e.f2) (mv o after b (e :: r), 0) := by
      intro c hc
      refine Ev.shift ?_
      simp only [rope_Move.j2]
      by_cases g : e.f0 > o ∨ (e.f0 = o ∧ e.f1 > o) ∨ (e.f0 = o ∧ e.f1 = o ∧ after = false)
      · rw [decide_eq_true g] at hc
        refine Ev.pos hc ?_
        rw [w64 (by omega) (by omega)]
        simp only [mv, if_pos g]
        exact Ev.now _
      · rw [decide_eq_false g] at hc
        refine Ev.neg (by simp [hc]) ?_
        simp only [mv, if_neg g]
        by_cases g2 : e.f1 > o
        · refine Ev.pos g2 ?_
          rw [w64 (n := e.f0 + b) (by omega) (by omega), w64 (by omega) (by omega)]
          simp only [if_pos g2]
          exact Ev.now _
        · refine Ev.neg g2 ?_
          simp only [if_neg g2]
          rw [w64 (n := e.f1 - e.f0) (by omega) (by omega), w64 (n := (e.f2.size : Int) - _) (by omega) (by omega), w64 (n := b + _) (by omega) (by omega), w64 (by omega) (by omega)]
          have h := ih (i + 1) e.f1 (b + grow e) (drop_next hd) h4 (by omega) h3 (by unfold grow; omega) (by unfold grow; omega)
          simpa [grow] using h
    refine Ev.shift ?_
    simp only [rope_Move.l0]
    rw [rd_at hd]
    refine Ev.pos (by omega) (Ev.pos (by omega) (Ev.pos (by omega) ?_))
    by_cases g1 : e.f0 > o
    · exact Ev.pos g1 (key _ (by rw [decide_eq_true g1, decide_eq_true (.inl g1)]))
    refine Ev.neg g1 ?_
    by_cases g2 : e.f0 = o
    · refine Ev.pos g2 ?_
      by_cases g3 : e.f1 > o
      · exact Ev.pos g3 (key _ (by rw [decide_eq_true g3, decide_eq_true (.inr (.inl ⟨g2, g3⟩))]))
      refine Ev.neg g3 ?_
      have g4 : e.f1 = o := by omega
      refine Ev.pos g4 (key _ ?_)
      cases after
      · rw [decide_eq_true (.inr (.inr ⟨g2, g4, rfl⟩))]; rfl
      · rw [decide_eq_false (by rintro (h | h | h) <;> first | omega | simp_all)]; rfl
    · refine Ev.neg g2 ?_
      have hf : decide (e.f0 > o ∨ (e.f0 = o ∧ e.f1 > o) ∨ (e.f0 = o ∧ e.f1 = o ∧ after = false)) = false := decide_eq_false (by rintro (h | h | h) <;> first | omega | exact g2 h.1)
      by_cases g3 : e.f1 = o
      · exact Ev.pos g3 (key _ hf.symm)
      · exact Ev.neg g3 (key _ hf.symm)
/-- The error of Move. -/
def mvErr (l : List Ed) (o : Int) : Int := if (l.length : Int) > 100 then 3 else if sp 20000 0 l = true then (if o < 0 ∨ o > 20000 then 2 else 0) else 2
theorem move_ev (l : List Ed) (o : Int) (after : Bool) (hf : Fit l) : Ev (fun k => rope_Move.f k l o after) (if mvErr l o = 0 then mv o after 0 l else 0, mvErr l o) := by
  have hl := hf.1
  have hns : newSum l ≤ 1000000 := hf.2
  unfold rope_Move.f mvErr
  refine Ev.bind (spans_ev l 20000 (by omega)) ?_
  by_cases h2 : (l.length : Int) > 100
  · simp only [if_pos h2]
    exact Ev.neg (by decide) (Ev.now _)
  simp only [if_neg h2]
  by_cases h3 : sp 20000 0 l = true
  · simp only [if_pos h3]
    refine Ev.pos (by simp) ?_
    by_cases h4 : o < 0
    · simp only [if_pos (show o < 0 ∨ o > 20000 from .inl h4)]
      refine Ev.pos h4 (Ev.shift ?_)
      simp only [rope_Move.j0]
      exact Ev.pos (by simp) (Ev.now _)
    refine Ev.neg h4 (Ev.shift ?_)
    simp only [rope_Move.j0]
    by_cases h5 : o > 20000
    · simp only [if_pos (show o < 0 ∨ o > 20000 from .inr h5)]
      exact Ev.pos (decide_eq_true h5) (Ev.now _)
    · simp only [if_neg (show ¬ (o < 0 ∨ o > 20000) by omega)]
      exact Ev.neg (by simpa using h5) (move_loop o after l hl (by omega) (by omega) l 0 0 0 rfl h3 (by omega) (by omega) (by omega) (by omega))
  · simp only [if_neg h3]
    exact Ev.neg (by decide) (Ev.now _)
theorem rmove_tail (o : Int) (after : Bool) (l : List Ed) (hl : l.length ≤ 102) (ho : 0 ≤ o) (ho2 : o ≤ 20000) (b : Int) (hb : -100000 ≤ b) (hb2 : b ≤ 2000000) : ∀ (r : List Ed) (i : Nat) (p : Int), l.drop i = r → sp 20000 p r = true → (o < p ∨ (o ≤ p ∧ after = false)) →
    Ev (fun k => marginaliaref01_Move.l0 k l o after b (i : Int)) (o + b) := by
  intro r
  induction r with
  | nil =>
    intro i p hd hs hp
    have := le_of_nil hd
    refine Ev.shift ?_
    simp only [marginaliaref01_Move.l0]
    refine Ev.neg (by omega) ?_
    rw [w64 (by omega) (by omega)]
    exact Ev.now _
  | cons e r ih =>
    intro i p hd hs hp
    have hlt := lt_of_drop hd
    obtain ⟨h1, h2, h3, h4⟩ := sp_cons hs
    have hnext := ih (i + 1) e.f1 (drop_next hd) h4 (by rcases hp with hp | hp; exact .inl (by omega); exact .inr ⟨by omega, hp.2⟩)
    refine Ev.shift ?_
    simp only [marginaliaref01_Move.l0]
    rw [rd_at hd]
    refine Ev.pos (by omega) (Ev.pos (by omega) (Ev.neg (by omega) (Ev.shift ?_)))
    simp only [marginaliaref01_Move.j1]
    refine Ev.neg (by simp) (Ev.neg (by omega) ?_)
    rw [w64 (n := (i : Int) + 1) (by omega) (by omega)]
    by_cases g1 : e.f1 = o
    · refine Ev.pos g1 (Ev.neg (by omega) (Ev.pos (by omega) (Ev.neg (by rcases hp with hp | hp; omega; simp [hp.2]) ?_)))
      simpa using hnext
    · refine Ev.neg g1 ?_
      by_cases g2 : e.f0 = o
      · refine Ev.pos g2 ?_
        simpa using hnext
      · refine Ev.neg g2 ?_
        simpa using hnext
theorem rmove_loop (o : Int) (after : Bool) (l : List Ed) (hl : l.length ≤ 102) (ho : 0 ≤ o) (ho2 : o ≤ 20000) : ∀ (r : List Ed) (i : Nat) (p b : Int), l.drop i = r → sp 20000 p r = true → 0 ≤ p → p ≤ 20000 → -p ≤ b → b + newSum r ≤ 2000000 →
    Ev (fun k => marginaliaref01_Move.l0 k l o after b (i : Int)) (mv o after b r) := by
  intro r
  induction r with
  | nil =>
    intro i p b hd hs hp hp2 hb hb2
    have := le_of_nil hd
    refine Ev.shift ?_
    simp only [marginaliaref01_Move.l0]
    refine Ev.neg (by omega) ?_
    rw [w64 (by omega) (by omega)]
    exact Ev.now _
  | cons e r ih =>
    intro i p b hd hs hp hp2 hb hb2
    by_cases g : e.f0 > o ∨ (e.f0 = o ∧ e.f1 > o) ∨ (e.f0 = o ∧ e.f1 = o ∧ after = false)
    · simp only [mv, if_pos g]
      have hs' := hs
      obtain ⟨h1, h2, h3, h4⟩ := sp_cons hs
      rw [newSum_cons] at hb2
      have hlt := lt_of_drop hd
      have hnext := rmove_tail o after l hl ho ho2 b (by omega) (by omega) r (i + 1) e.f1 (drop_next hd) h4 (by rcases g with g | g | g; exact .inl (by omega); exact .inl (by omega); exact .inr ⟨by omega, g.2.2⟩)
      refine Ev.shift ?_
      simp only [marginaliaref01_Move.l0]
      rw [rd_at hd]
      refine Ev.pos (by omega) (Ev.pos (by omega) (Ev.neg (by omega) (Ev.shift ?_)))
      simp only [marginaliaref01_Move.j1]
      refine Ev.neg (by simp) (Ev.neg (by omega) ?_)
      rw [w64 (n := (i : Int) + 1) (by omega) (by omega)]
      by_cases g1 : e.f1 = o
      · refine Ev.pos g1 (Ev.neg (by omega) (Ev.pos (by omega) (Ev.neg (by rcases g with g | g | g; omega; omega; simp [g.2.2]) ?_)))
        simpa using hnext
      · refine Ev.neg g1 ?_
        by_cases g2 : e.f0 = o
        · refine Ev.pos g2 ?_
          simpa using hnext
        · refine Ev.neg g2 ?_
          simpa using hnext
    · simp only [mv, if_neg g]
      have hlt := lt_of_drop hd
      obtain ⟨h1, h2, h3, h4⟩ := sp_cons hs
      rw [newSum_cons] at hb2
      have hgo : e.f1 ≤ o → Ev (fun k => marginaliaref01_Move.l0 k l o after (wrap64 (b + wrap64 ((e.f2.size : Int) - wrap64 (e.f1 - e.f0)))) (wrap64 ((i : Int) + 1))) (mv o after (b + grow e) r) := by
        intro _
        rw [w64 (n := e.f1 - e.f0) (by omega) (by omega), w64 (n := (e.f2.size : Int) - _) (by omega) (by omega), w64 (n := b + _) (by omega) (by omega), w64 (by omega) (by omega)]
        have h := ih (i + 1) e.f1 (b + grow e) (drop_next hd) h4 (by omega) h3 (by unfold grow; omega) (by unfold grow; omega)
        simpa [grow] using h
      refine Ev.shift ?_
      simp only [marginaliaref01_Move.l0]
      rw [rd_at hd]
      refine Ev.pos (by omega) (Ev.pos (by omega) ?_)
      by_cases g0 : e.f0 < o
      · refine Ev.pos g0 (Ev.shift ?_)
        simp only [marginaliaref01_Move.j1]
        by_cases g2 : e.f1 > o
        · refine Ev.pos (decide_eq_true g2) ?_
          rw [w64 (n := e.f0 + b) (by omega) (by omega), w64 (by omega) (by omega)]
          simp only [if_pos g2]
          exact Ev.now _
        · simp only [if_neg g2]
          refine Ev.neg (by simpa using g2) ?_
          by_cases g3 : e.f1 < o
          · exact Ev.pos g3 (hgo (by omega))
          · exact Ev.neg g3 (Ev.pos (by omega) (Ev.pos g0 (hgo (by omega))))
      · have g5 : e.f0 = o ∧ e.f1 = o ∧ after = true := by
          have a1 : ¬ e.f0 > o := fun h => g (.inl h)
          have a2 : ¬ (e.f0 = o ∧ e.f1 > o) := fun h => g (.inr (.inl h))
          have a3 : e.f0 = o := by omega
          have a4 : e.f1 = o := by
            rcases Int.lt_or_le o e.f1 with h | h
            · exact absurd ⟨a3, h⟩ a2
            · omega
          refine ⟨a3, a4, ?_⟩
          cases after
          · exact absurd (.inr (.inr ⟨a3, a4, rfl⟩)) g
          · rfl
        refine Ev.neg g0 (Ev.shift ?_)
        simp only [marginaliaref01_Move.j1]
        simp only [if_neg (show ¬ e.f1 > o by omega)]
        exact Ev.neg (by simp) (Ev.neg (by omega) (Ev.pos g5.2.1 (Ev.neg (by omega) (Ev.pos g5.1 (Ev.pos g5.2.2 (hgo (by omega)))))))
theorem rspans_loop (l : List Ed) (hl : l.length ≤ 102) : ∀ (r : List Ed) (i : Nat) (p : Int), l.drop i = r →
    Ev (fun k => marginaliaref01_Spans.l0 k l p (i : Int)) (sp 20000 p r) := by
  intro r
  induction r with
  | nil =>
    intro i p hd
    have := le_of_nil hd
    refine Ev.shift ?_
    simp only [marginaliaref01_Spans.l0]
    refine Ev.neg (by omega) ?_
    exact Ev.now _
  | cons e r ih =>
    intro i p hd
    have hlt := lt_of_drop hd
    refine Ev.shift ?_
    simp only [marginaliaref01_Spans.l0]
    rw [rd_at hd]
    refine Ev.pos (by omega) (Ev.pos (by omega) ?_)
    by_cases h1 : e.f0 < p
    · refine Ev.pos h1 ?_
      rw [show sp 20000 p (e :: r) = false by simp [sp]; intro h; omega]
      exact Ev.now _
    refine Ev.neg h1 ?_
    by_cases h2 : e.f1 < e.f0
    · refine Ev.pos h2 ?_
      rw [show sp 20000 p (e :: r) = false by simp [sp]; intro _ h; omega]
      exact Ev.now _
    refine Ev.neg h2 ?_
    by_cases h3 : e.f1 > 20000
    · refine Ev.pos h3 ?_
      rw [show sp 20000 p (e :: r) = false by simp [sp]; intro _ _ h; omega]
      exact Ev.now _
    refine Ev.neg h3 ?_
    rw [w64 (by omega) (by omega)]
    have h := ih (i + 1) e.f1 (drop_next hd)
    have e1 : sp 20000 p (e :: r) = sp 20000 e.f1 r := by
      simp only [sp]
      rw [decide_eq_true (by omega), decide_eq_true (by omega), decide_eq_true (by omega)]
      rfl
    rw [e1]
    simpa using h
/-! ### Apply -/
def ba (l : List UInt8) : ByteArray := ⟨l.toArray⟩
def cutS (s : ByteArray) (a b : Int) : List UInt8 := (s.extract a.toNat b.toNat).data.toList
theorem ba_size (l : List UInt8) : (ba l).size = l.length := by simp [ba, ByteArray.size]
theorem ba_list (l : List UInt8) : (ba l).data.toList = l := by simp [ba]
theorem list_ba (s : ByteArray) : ba s.data.toList = s := by
  apply ByteArray.ext
  simp [ba]
theorem ba_append (l : List UInt8) (s : ByteArray) : ba l ++ s = ba (l ++ s.data.toList) := by
  apply ByteArray.ext
  simp [ba]
theorem cutS_eq (s : ByteArray) (a b : Int) : cutS s a b = (s.data.toList.take b.toNat).drop a.toNat := by
  rw [cutS, ByteArray.data_extract, Array.toList_extract, List.extract_eq_take_drop, List.drop_take]
theorem cutS_length (s : ByteArray) (a b : Int) : (cutS s a b).length = min b.toNat s.size - a.toNat := by
  rw [cutS, Ut.size_data, ByteArray.size_extract]
def app (s : ByteArray) : Int → List Ed → List UInt8
  | p, [] => cutS s p s.size
  | p, e :: r => cutS s p e.f0 ++ e.f2.data.toList ++ app s e.f1 r
theorem app_length (s : ByteArray) : ∀ (l : List Ed) (p : Int), sp s.size p l = true → 0 ≤ p → p ≤ s.size → ((app s p l).length : Int) = s.size - p - spanSum l + newSum l
  | [], p, _, h0, h1 => by
    simp only [app, cutS_length, spanSum, newSum, List.map_nil, List.sum_nil]
    omega
  | e :: r, p, h, h0, h1 => by
    obtain ⟨h2, h3, h4, h5⟩ := sp_cons h
    have := app_length s r e.f1 h5 (by omega) h4
    rw [spanSum_cons, newSum_cons]
    simp only [app, List.length_append, cutS_length, Ut.size_data]
    omega
theorem go_eq (s : ByteArray) : ∀ (l : List Ed) (p : Int) (acc : List UInt8), sp s.size p l = true → 0 ≤ p → p ≤ s.size → acc.length + (app s p l).length ≤ 140737488355328 → rope_Apply.go s l p acc = some (acc ++ app s p l)
  | [], p, acc, _, h0, h1, hb => by
    have e : (s.extract p.toNat s.size).data.toList = app s p [] := by simp [app, cutS]
    have e2 : (s.extract p.toNat s.size).size = (app s p []).length := by rw [← e, Ut.size_data]
    unfold rope_Apply.go
    rw [if_pos h0, if_pos h1, e2, if_pos hb, e]
  | e :: r, p, acc, h, h0, h1, hb => by
    obtain ⟨h2, h3, h4, h5⟩ := sp_cons h
    have e1 : (s.extract p.toNat e.f0.toNat).data.toList = cutS s p e.f0 := rfl
    have e2 : (s.extract p.toNat e.f0.toNat).size = (cutS s p e.f0).length := by rw [← e1, Ut.size_data]
    simp only [app, List.length_append, Ut.size_data] at hb
    unfold rope_Apply.go
    rw [if_pos h0, if_pos h2, if_pos (by omega), e2, if_pos (by omega), e1, go_eq s r e.f1 _ h5 (by omega) h4 (by simp only [List.length_append, Ut.size_data]; omega)]
    simp [app]
theorem apply_ev (s : ByteArray) (l : List Ed) (hs : s.size ≤ 9223372036854775807) (hf : Fit l) : Ev (fun k => rope_Apply.f k s l) (if chk s.size l = 0 then ba (app s 0 l) else ⟨#[]⟩, chk s.size l) := by
  unfold rope_Apply.f
  refine Ev.bind (check_ev s l hs hf) ?_
  by_cases h : chk s.size l = 0
  · obtain ⟨h1, h2, h3, h4⟩ := chk_ok h
    have h5 := app_length s l 0 h3 (by omega) (by omega)
    rw [go_eq s l 0 [] h3 (by omega) (by omega) (by simp only [List.length_nil]; omega)]
    simp only [if_pos h, h]
    exact Ev.now _
  · simp only [if_neg h]
    exact Ev.now _
theorem rapply_loop (s : ByteArray) (l : List Ed) (hs : s.size ≤ 20000) (hl : l.length ≤ 102) : ∀ (r : List Ed) (i : Nat) (p : Int) (acc : List UInt8), l.drop i = r → sp s.size p r = true → 0 ≤ p → p ≤ s.size → acc.length + (app s p r).length ≤ 1000000 →
    Ev (fun k => marginaliaref01_Apply.l0 k s l (ba acc) p (i : Int)) (ba (acc ++ app s p r)) := by
  intro r
  induction r with
  | nil =>
    intro i p acc hd hsp h0 h1 hb
    have := le_of_nil hd
    have e : (s.extract p.toNat s.size).data.toList = app s p [] := by simp [app, cutS]
    have e2 : (s.extract p.toNat s.size).size = (app s p []).length := by rw [← e, Ut.size_data]
    refine Ev.shift ?_
    simp only [marginaliaref01_Apply.l0]
    refine Ev.neg (by omega) (Ev.pos h0 (Ev.pos h1 ?_))
    rw [ba_size, e2, ba_append, e]
    exact Ev.pos (by omega) (Ev.now _)
  | cons e r ih =>
    intro i p acc hd hsp h0 h1 hb
    have hlt := lt_of_drop hd
    obtain ⟨h2, h3, h4, h5⟩ := sp_cons hsp
    have e1 : (s.extract p.toNat e.f0.toNat).data.toList = cutS s p e.f0 := rfl
    have e2 : (s.extract p.toNat e.f0.toNat).size = (cutS s p e.f0).length := by rw [← e1, Ut.size_data]
    simp only [app, List.length_append, Ut.size_data] at hb
    refine Ev.shift ?_
    simp only [marginaliaref01_Apply.l0]
    rw [rd_at hd, ba_append, ba_append, ba_size, ba_size, e1, e2]
    refine Ev.pos (by omega) (Ev.pos (by omega) (Ev.pos h0 (Ev.pos h2 (Ev.pos (by omega) (Ev.pos (by omega) (Ev.pos (by simp only [List.length_append]; omega) ?_))))))
    rw [w64 (by omega) (by omega)]
    have h := ih (i + 1) e.f1 (acc ++ cutS s p e.f0 ++ e.f2.data.toList) (drop_next hd) h5 (by omega) h4 (by simp only [List.length_append, Ut.size_data]; omega)
    simpa [app] using h
theorem rapply_ev (s : ByteArray) (l : List Ed) (h : chk s.size l = 0) : Ev (fun k => marginaliaref01_Apply.f k s l) (ba (app s 0 l)) := by
  obtain ⟨h1, h2, h3, h4⟩ := chk_ok h
  have h5 := app_length s l 0 h3 (by omega) (by omega)
  have := rapply_loop s l (by omega) (by omega) l 0 0 [] rfl h3 (by omega) (by omega) (by simp only [List.length_nil]; omega)
  exact this

/-! ### Invert -/
def inv (s : ByteArray) : Int → List Ed → List Ed
  | _, [] => []
  | b, e :: r => ⟨e.f0 + b, e.f0 + b + e.f2.size, s.extract e.f0.toNat e.f1.toNat⟩ :: inv s (b + grow e) r
theorem inv_length (s : ByteArray) : ∀ (l : List Ed) (b : Int), (inv s b l).length = l.length
  | [], _ => rfl
  | e :: r, b => by simp [inv, inv_length s r]
theorem invert_loop (s : ByteArray) (l : List Ed) (hs : s.size ≤ 20000) (hl : l.length ≤ 102) : ∀ (r : List Ed) (i : Nat) (p b : Int) (acc : List Ed), l.drop i = r → sp s.size p r = true → 0 ≤ p → p ≤ s.size → -p ≤ b → b + newSum r ≤ 2000000 → acc.length ≤ i →
    Ev (fun k => rope_Invert.l0 k s acc b l (l.length : Int) (i : Int)) (acc ++ inv s b r, 0) := by
  intro r
  induction r with
  | nil =>
    intro i p b acc hd hsp h0 h1 hb hb2 ha
    have := le_of_nil hd
    refine Ev.shift ?_
    simp only [rope_Invert.l0, inv, List.append_nil]
    exact Ev.neg (by omega) (Ev.now _)
  | cons e r ih =>
    intro i p b acc hd hsp h0 h1 hb hb2 ha
    have hlt := lt_of_drop hd
    obtain ⟨h2, h3, h4, h5⟩ := sp_cons hsp
    rw [newSum_cons] at hb2
    refine Ev.shift ?_
    simp only [rope_Invert.l0]
    rw [rd_at hd]
    refine Ev.pos (by omega) (Ev.pos (by omega) (Ev.pos (by omega) (Ev.pos (by omega) (Ev.pos (by omega) (Ev.pos (by omega) (Ev.pos (by omega) ?_))))))
    rw [w64 (n := e.f1 - e.f0) (by omega) (by omega), w64 (n := (e.f2.size : Int) - _) (by omega) (by omega), w64 (n := b + _) (by omega) (by omega), w64 (n := (i : Int) + 1) (by omega) (by omega), w64 (n := e.f0 + b) (by omega) (by omega), w64 (by omega) (by omega)]
    have h := ih (i + 1) e.f1 (b + grow e) (acc ++ [⟨e.f0 + b, e.f0 + b + e.f2.size, s.extract e.f0.toNat e.f1.toNat⟩]) (drop_next hd) h5 (by omega) h4 (by unfold grow; omega) (by unfold grow; omega) (by simp; omega)
    simpa [grow, inv] using h
theorem invert_ev (s : ByteArray) (l : List Ed) (hs : s.size ≤ 9223372036854775807) (hf : Fit l) : Ev (fun k => rope_Invert.f k s l) (if chk s.size l = 0 then inv s 0 l else [], chk s.size l) := by
  unfold rope_Invert.f
  refine Ev.bind (check_ev s l hs hf) ?_
  by_cases h : chk s.size l = 0
  · obtain ⟨h1, h2, h3, h4⟩ := chk_ok h
    have h5 := span_le h3 (by omega)
    simp only [if_pos h, h]
    exact Ev.pos (by simp) (invert_loop s l (by omega) hf.1 l 0 0 0 [] rfl h3 (by omega) (by omega) (by omega) (by omega) (by simp))
  · simp only [if_neg h]
    exact Ev.now _
abbrev Sp := S49
def places : Int → List Ed → List Sp
  | _, [] => []
  | b, e :: r => ⟨e.f0 + b, e.f0 + b + e.f2.size⟩ :: places (b + grow e) r
theorem places_loop (m : Int) (hm : m ≤ 20000) (l : List Ed) (hl : l.length ≤ 102) : ∀ (r : List Ed) (i : Nat) (p b : Int) (acc : List Sp), l.drop i = r → sp m p r = true → 0 ≤ p → p ≤ m → -p ≤ b → b + newSum r ≤ 2000000 → acc.length ≤ i →
    Ev (fun k => marginaliaref01_Places.l0 k l acc b (i : Int)) (acc ++ places b r) := by
  intro r
  induction r with
  | nil =>
    intro i p b acc hd hsp h0 h1 hb hb2 ha
    have := le_of_nil hd
    refine Ev.shift ?_
    simp only [marginaliaref01_Places.l0, places, List.append_nil]
    exact Ev.neg (by omega) (Ev.now _)
  | cons e r ih =>
    intro i p b acc hd hsp h0 h1 hb hb2 ha
    have hlt := lt_of_drop hd
    obtain ⟨h2, h3, h4, h5⟩ := sp_cons hsp
    rw [newSum_cons] at hb2
    refine Ev.shift ?_
    simp only [marginaliaref01_Places.l0]
    rw [rd_at hd]
    refine Ev.pos (by omega) (Ev.pos (by omega) (Ev.pos (by omega) ?_))
    rw [w64 (n := e.f1 - e.f0) (by omega) (by omega), w64 (n := (e.f2.size : Int) - _) (by omega) (by omega), w64 (n := b + _) (by omega) (by omega), w64 (n := (i : Int) + 1) (by omega) (by omega), w64 (n := e.f0 + b) (by omega) (by omega), w64 (by omega) (by omega)]
    have h := ih (i + 1) e.f1 (b + grow e) (acc ++ [⟨e.f0 + b, e.f0 + b + e.f2.size⟩]) (drop_next hd) h5 (by omega) h4 (by unfold grow; omega) (by unfold grow; omega) (by simp; omega)
    simpa [grow, places] using h
theorem places_length : ∀ (l : List Ed) (b : Int), (places b l).length = l.length
  | [], _ => rfl
  | e :: r, b => by simp [places, places_length r]
theorem rd_sp {l : List Sp} {i : Nat} {e : Sp} {r : List Sp} (h : l.drop i = e :: r) : rd_T49 l (i : Int) = e := by
  have h1 : l[i]? = some e := by
    have := congrArg (fun x : List Sp => x[0]?) h
    simpa [List.getElem?_drop] using this
  simp [rd_T49, List.getD_eq_getElem?_getD, h1]
theorem rinvert_loop (s : ByteArray) (l : List Ed) (q : List Sp) (hs : s.size ≤ 20000) (hl : l.length ≤ 102) (hq : q.length = l.length) : ∀ (r : List Ed) (i : Nat) (p b : Int) (acc : List Ed), l.drop i = r → q.drop i = places b r → sp s.size p r = true → 0 ≤ p → p ≤ s.size → acc.length ≤ i →
    Ev (fun k => marginaliaref01_Invert.l0 k s l acc q (i : Int)) (acc ++ inv s b r) := by
  intro r
  induction r with
  | nil =>
    intro i p b acc hd hdq hsp h0 h1 ha
    have := le_of_nil hd
    refine Ev.shift ?_
    simp only [marginaliaref01_Invert.l0, inv, List.append_nil]
    exact Ev.neg (by omega) (Ev.now _)
  | cons e r ih =>
    intro i p b acc hd hdq hsp h0 h1 ha
    have hlt := lt_of_drop hd
    obtain ⟨h2, h3, h4, h5⟩ := sp_cons hsp
    simp only [places] at hdq
    refine Ev.shift ?_
    simp only [marginaliaref01_Invert.l0]
    rw [rd_at hd, rd_sp hdq]
    refine Ev.pos (by omega) (Ev.pos (by omega) (Ev.pos (by omega) (Ev.pos (by omega) (Ev.pos (by omega) (Ev.pos (by omega) (Ev.pos (by omega) ?_))))))
    rw [w64 (n := (i : Int) + 1) (by omega) (by omega)]
    have h := ih (i + 1) e.f1 (b + grow e) (acc ++ [⟨e.f0 + b, e.f0 + b + e.f2.size, s.extract e.f0.toNat e.f1.toNat⟩]) (drop_next hd) (drop_next hdq) h5 (by omega) h4 (by simp; omega)
    simpa [inv] using h
theorem rinvert_ev (s : ByteArray) (l : List Ed) (hf : Fit l) (h : chk s.size l = 0) : Ev (fun k => marginaliaref01_Invert.f k s l) (inv s 0 l) := by
  obtain ⟨h1, h2, h3, h4⟩ := chk_ok h
  have h5 := span_le h3 (by omega)
  have hp : Ev (fun k => marginaliaref01_Places.f k l) (places 0 l) := by
    have := places_loop s.size (by omega) l hf.1 l 0 0 0 [] rfl h3 (by omega) (by omega) (by omega) (by omega) (by simp)
    simpa [marginaliaref01_Places.f] using this
  unfold marginaliaref01_Invert.f
  refine Ev.bind hp ?_
  have := rinvert_loop s l (places 0 l) (by omega) hf.1 (places_length l 0) l 0 0 0 [] rfl rfl h3 (by omega) (by omega) (by simp)
  simpa using this

/-! ### Same -/
def sameB : List Ed → List Ed → Bool
  | [], [] => true
  | e :: r, f :: q => (e.f0 == f.f0 && (e.f1 == f.f1 && e.f2.toList == f.f2.toList)) && sameB r q
  | _, _ => false
theorem toList_inj {s t : ByteArray} (h : s.toList = t.toList) : s = t := by
  rw [Lib.toList_data, Lib.toList_data] at h
  rw [← list_ba s, ← list_ba t, h]
theorem sameB_refl : ∀ l : List Ed, sameB l l = true
  | [] => rfl
  | e :: r => by simp [sameB, sameB_refl r]
theorem sameB_eq : ∀ {l m : List Ed}, sameB l m = true → l = m
  | [], [], _ => rfl
  | [], _ :: _, h => by simp [sameB] at h
  | _ :: _, [], h => by simp [sameB] at h
  | e :: r, f :: q, h => by
    simp only [sameB, Bool.and_eq_true, beq_iff_eq] at h
    obtain ⟨⟨h1, h2, h3⟩, h4⟩ := h
    rw [sameB_eq h4]
    cases e
    cases f
    simp only at h1 h2 h3
    rw [h1, h2, toList_inj h3]
theorem same_loop (a b : List Ed) (hab : a.length = b.length) (hl : a.length ≤ 9223372036854775806) : ∀ (r q : List Ed) (i : Nat), a.drop i = r → b.drop i = q → Ev (fun k => marginaliaref01_Same.l0 k a b (i : Int)) (sameB r q) := by
  intro r
  induction r with
  | nil =>
    intro q i hd hq
    have h1 := le_of_nil hd
    have : q = [] := by rw [← hq]; exact List.drop_of_length_le (by omega)
    subst this
    refine Ev.shift ?_
    simp only [marginaliaref01_Same.l0]
    exact Ev.neg (by omega) (Ev.now _)
  | cons e r ih =>
    intro q i hd hq
    have hlt := lt_of_drop hd
    cases q with
    | nil => have := le_of_nil hq; omega
    | cons f q =>
      refine Ev.shift ?_
      simp only [marginaliaref01_Same.l0]
      rw [rd_at hd, rd_at hq]
      refine Ev.pos (by omega) (Ev.pos (by omega) (Ev.pos (by omega) ?_))
      rw [w64 (by omega) (by omega)]
      by_cases h : (!(e.f0 == f.f0) || (!(e.f1 == f.f1) || (!(e.f2.toList == f.f2.toList)))) = true
      · refine Ev.pos h ?_
        have : (e.f0 == f.f0 && (e.f1 == f.f1 && e.f2.toList == f.f2.toList)) = false := by
          cases g0 : (e.f0 == f.f0) <;> cases g1 : (e.f1 == f.f1) <;> cases g2 : (e.f2.toList == f.f2.toList) <;> simp [g0, g1, g2] at h ⊢
        simp only [sameB, this, Bool.false_and]
        exact Ev.now _
      · refine Ev.neg h ?_
        have : (e.f0 == f.f0 && (e.f1 == f.f1 && e.f2.toList == f.f2.toList)) = true := by
          cases g0 : (e.f0 == f.f0) <;> cases g1 : (e.f1 == f.f1) <;> cases g2 : (e.f2.toList == f.f2.toList) <;> simp [g0, g1, g2] at h ⊢
        simp only [sameB, this, Bool.true_and]
        have h2 := ih q (i + 1) (drop_next hd) (drop_next hq)
        simpa using h2
theorem same_ev (a b : List Ed) (hl : a.length ≤ 9223372036854775806) : Ev (fun k => marginaliaref01_Same.f k a b) (sameB a b) := by
  unfold marginaliaref01_Same.f
  by_cases h : a.length = b.length
  · exact Ev.pos (by omega) (same_loop a b h hl a b 0 rfl rfl)
  · have e : sameB a b = false := by
      cases hc : sameB a b
      · rfl
      · exact absurd (congrArg List.length (sameB_eq hc)) h
    rw [e]
    exact Ev.neg (by omega) (Ev.now _)
/-! ### Diff -/
def pre : List UInt8 → List UInt8 → Nat
  | x :: xs, y :: ys => if x = y then pre xs ys + 1 else 0
  | _, _ => 0
theorem pre_le : ∀ (l m : List UInt8), pre l m ≤ l.length ∧ pre l m ≤ m.length
  | [], _ => by simp [pre]
  | _ :: _, [] => by simp [pre]
  | x :: xs, y :: ys => by
    have := pre_le xs ys
    simp only [pre]
    split <;> simp <;> omega
theorem bt_get (s : ByteArray) (i : Nat) (h : i < s.data.toList.length) : bt s (i : Int) = ((s.data.toList[i]).toNat : Int) := by
  have h' : i < s.size := by rw [← Ut.size_data]; exact h
  rw [← bt_at s (i : Int) h']
  rfl
theorem bt_same {a b : ByteArray} {i j : Nat} (h : i < a.data.toList.length) (h' : j < b.data.toList.length) : (bt a (i : Int) = bt b (j : Int)) ↔ a.data.toList[i] = b.data.toList[j] := by
  rw [bt_get a i h, bt_get b j h']
  constructor
  · intro e
    exact UInt8.toNat_inj.1 (by omega)
  · intro e
    rw [e]
theorem diff_l0 (a b : ByteArray) (ha : a.size ≤ 20001) (hb : b.size ≤ 20001) : ∀ (d i : Nat), min a.size b.size - i = d → i ≤ min a.size b.size → ∀ r,
    Ev (fun k => rope_Diff.j1 k a b ((i + pre (a.data.toList.drop i) (b.data.toList.drop i) : Nat) : Int)) r → Ev (fun k => rope_Diff.l0 k a b (i : Int)) r := by
  intro d
  induction d with
  | zero =>
    intro i hd hi r h
    have e : pre (a.data.toList.drop i) (b.data.toList.drop i) = 0 := by
      have := pre_le (a.data.toList.drop i) (b.data.toList.drop i)
      simp only [List.length_drop, Ut.size_data] at this
      omega
    rw [e] at h
    refine Ev.shift ?_
    simp only [rope_Diff.l0]
    rw [mn_nat]
    exact Ev.neg (by omega) h
  | succ d ih =>
    intro i hd hi r h
    have h1 : i < a.data.toList.length := by rw [Ut.size_data]; omega
    have h2 : i < b.data.toList.length := by rw [Ut.size_data]; omega
    rw [List.drop_eq_getElem_cons h1, List.drop_eq_getElem_cons h2] at h
    simp only [pre] at h
    refine Ev.shift ?_
    simp only [rope_Diff.l0]
    rw [mn_nat]
    refine Ev.pos (by omega) (Ev.pos (by omega) (Ev.pos (by omega) (Ev.pos (by omega) ?_)))
    by_cases g : a.data.toList[i] = b.data.toList[i]
    · refine Ev.pos ((bt_same h1 h2).2 g) ?_
      simp only [if_pos g] at h
      rw [w64 (by omega) (by omega)]
      refine ih (i + 1) (by omega) (by omega) r ?_
      rw [show i + 1 + pre (a.data.toList.drop (i + 1)) (b.data.toList.drop (i + 1)) = i + (pre (a.data.toList.drop (i + 1)) (b.data.toList.drop (i + 1)) + 1) by omega]
      exact h
    · refine Ev.neg (fun e => g ((bt_same h1 h2).1 e)) ?_
      simp only [if_neg g] at h
      exact h
theorem rdiff_l0 (a b : ByteArray) (ha : a.size ≤ 20001) (hb : b.size ≤ 20001) : ∀ (d i : Nat), min a.size b.size - i = d → i ≤ min a.size b.size → ∀ r,
    Ev (fun k => marginaliaref01_Diff.j1 k a b ((i + pre (a.data.toList.drop i) (b.data.toList.drop i) : Nat) : Int)) r → Ev (fun k => marginaliaref01_Diff.l0 k a b (i : Int)) r := by
  intro d
  induction d with
  | zero =>
    intro i hd hi r h
    have e : pre (a.data.toList.drop i) (b.data.toList.drop i) = 0 := by
      have := pre_le (a.data.toList.drop i) (b.data.toList.drop i)
      simp only [List.length_drop, Ut.size_data] at this
      omega
    rw [e] at h
    refine Ev.shift ?_
    simp only [marginaliaref01_Diff.l0]
    by_cases g : (i : Int) < (a.size : Int)
    · exact Ev.pos g (Ev.neg (by omega) h)
    · exact Ev.neg g h
  | succ d ih =>
    intro i hd hi r h
    have h1 : i < a.data.toList.length := by rw [Ut.size_data]; omega
    have h2 : i < b.data.toList.length := by rw [Ut.size_data]; omega
    rw [List.drop_eq_getElem_cons h1, List.drop_eq_getElem_cons h2] at h
    simp only [pre] at h
    refine Ev.shift ?_
    simp only [marginaliaref01_Diff.l0]
    refine Ev.pos (by omega) (Ev.pos (by omega) (Ev.pos (by omega) ?_))
    by_cases g : a.data.toList[i] = b.data.toList[i]
    · refine Ev.pos ((bt_same h1 h2).2 g) ?_
      simp only [if_pos g] at h
      rw [w64 (by omega) (by omega)]
      refine ih (i + 1) (by omega) (by omega) r ?_
      rw [show i + 1 + pre (a.data.toList.drop (i + 1)) (b.data.toList.drop (i + 1)) = i + (pre (a.data.toList.drop (i + 1)) (b.data.toList.drop (i + 1)) + 1) by omega]
      exact h
    · refine Ev.neg (fun e => g ((bt_same h1 h2).1 e)) ?_
      simp only [if_neg g] at h
      exact h
/-- How many bytes at the ends, beyond n at the beginning, are the same. -/
def suf (a b : ByteArray) (n : Nat) : Nat := min (pre a.data.toList.reverse b.data.toList.reverse) (min a.size b.size - n)
def ed (a b : ByteArray) (n k : Nat) : Ed := ⟨n, (a.size : Int) - k, b.extract n (b.size - k)⟩
theorem suf_step (a b : ByteArray) (n k : Nat) (hk : k < min a.size b.size - n) (hle : k ≤ pre a.data.toList.reverse b.data.toList.reverse) :
    (bt a ((a.size - 1 - k : Nat) : Int) = bt b ((b.size - 1 - k : Nat) : Int)) ↔ k < pre a.data.toList.reverse b.data.toList.reverse := by
  have h1 : a.size - 1 - k < a.data.toList.length := by rw [Ut.size_data]; omega
  have h2 : b.size - 1 - k < b.data.toList.length := by rw [Ut.size_data]; omega
  rw [bt_same h1 h2]
  have g : ∀ (l m : List UInt8) (k : Nat) (h : k < l.length) (h' : k < m.length), k ≤ pre l m → (l[k] = m[k] ↔ k < pre l m) := by
    intro l
    induction l with
    | nil => intro m k h; simp at h
    | cons x xs ih =>
      intro m k h h' hp
      cases m with
      | nil => simp at h'
      | cons y ys =>
        cases k with
        | zero =>
          simp only [List.getElem_cons_zero, pre]
          by_cases e : x = y
          · simp [e]
          · simp [e]
        | succ k =>
          simp only [List.getElem_cons_succ, pre] at hp ⊢
          by_cases e : x = y
          · simp only [if_pos e] at hp ⊢
            rw [ih ys k (by simpa using h) (by simpa using h') (by omega)]
            omega
          · simp only [if_neg e] at hp
            omega
  have h3 : k < a.data.toList.reverse.length := by rw [List.length_reverse, Ut.size_data]; omega
  have h4 : k < b.data.toList.reverse.length := by rw [List.length_reverse, Ut.size_data]; omega
  have := g _ _ k h3 h4 hle
  rw [List.getElem_reverse, List.getElem_reverse] at this
  simp only [Ut.size_data] at this
  exact this
theorem diff_l1 (a b : ByteArray) (ha : a.size ≤ 20001) (hb : b.size ≤ 20001) (n : Nat) (hn : n ≤ min a.size b.size) : ∀ (d k : Nat), min a.size b.size - n - k = d → k ≤ min a.size b.size - n → k ≤ pre a.data.toList.reverse b.data.toList.reverse →
    Ev (fun f => rope_Diff.l1 f a b (n : Int) (k : Int)) ([ed a b n (suf a b n)], 0) := by
  intro d
  induction d with
  | zero =>
    intro k hd hk hp
    have e : suf a b n = k := by unfold suf; omega
    refine Ev.shift ?_
    simp only [rope_Diff.l1]
    rw [mn_nat, w64 (n := ((min a.size b.size : Nat) : Int) - n) (by omega) (by omega), w64 (n := (b.size : Int) - k) (by omega) (by omega), w64 (n := (a.size : Int) - k) (by omega) (by omega)]
    refine Ev.neg (by omega) (Ev.pos (by omega) (Ev.pos (by omega) (Ev.pos (by omega) ?_)))
    rw [e]
    have e2 : ((b.size : Int) - k).toNat = b.size - k := by omega
    rw [e2]
    exact Ev.now _
  | succ d ih =>
    intro k hd hk hp
    refine Ev.shift ?_
    simp only [rope_Diff.l1]
    rw [mn_nat, w64 (n := ((min a.size b.size : Nat) : Int) - n) (by omega) (by omega), w64 (n := (b.size : Int) - k) (by omega) (by omega), w64 (n := (a.size : Int) - k) (by omega) (by omega), w64 (n := (a.size : Int) - 1) (by omega) (by omega), w64 (n := (b.size : Int) - 1) (by omega) (by omega), w64 (n := (a.size : Int) - 1 - k) (by omega) (by omega), w64 (n := (b.size : Int) - 1 - k) (by omega) (by omega), w64 (n := (k : Int) + 1) (by omega) (by omega)]
    refine Ev.pos (by omega) (Ev.pos (by omega) (Ev.pos (by omega) (Ev.pos (by omega) (Ev.pos (by omega) ?_))))
    rw [show (a.size : Int) - 1 - k = ((a.size - 1 - k : Nat) : Int) by omega, show (b.size : Int) - 1 - k = ((b.size - 1 - k : Nat) : Int) by omega]
    by_cases g : k < pre a.data.toList.reverse b.data.toList.reverse
    · refine Ev.pos ((suf_step a b n k (by omega) hp).2 g) ?_
      exact ih (k + 1) (by omega) (by omega) (by omega)
    · refine Ev.neg (fun e => g ((suf_step a b n k (by omega) hp).1 e)) (Ev.pos (by omega) (Ev.pos (by omega) (Ev.pos (by omega) ?_)))
      have e : suf a b n = k := by unfold suf; omega
      rw [e]
      have e2 : ((b.size : Int) - k).toNat = b.size - k := by omega
      rw [e2]
      exact Ev.now _
theorem rdiff_l1 (a b : ByteArray) (ha : a.size ≤ 20001) (hb : b.size ≤ 20001) (n : Nat) (hn : n ≤ min a.size b.size) : ∀ (d k : Nat), min a.size b.size - n - k = d → k ≤ min a.size b.size - n → k ≤ pre a.data.toList.reverse b.data.toList.reverse →
    Ev (fun f => marginaliaref01_Diff.l1 f a b (n : Int) (k : Int)) [ed a b n (suf a b n)] := by
  intro d
  induction d with
  | zero =>
    intro k hd hk hp
    have e : suf a b n = k := by unfold suf; omega
    have fin : Ev (fun _ => some [ed a b n k]) [ed a b n (suf a b n)] := by rw [e]; exact Ev.now _
    have e2 : ((b.size : Int) - k).toNat = b.size - k := by omega
    refine Ev.shift ?_
    simp only [marginaliaref01_Diff.l1]
    rw [w64 (n := (a.size : Int) - n) (by omega) (by omega), w64 (n := (b.size : Int) - n) (by omega) (by omega), w64 (n := (b.size : Int) - k) (by omega) (by omega), w64 (n := (a.size : Int) - k) (by omega) (by omega), e2]
    by_cases g : (k : Int) < (a.size : Int) - n
    · exact Ev.pos g (Ev.neg (by omega) (Ev.pos (by omega) (Ev.pos (by omega) (Ev.pos (by omega) fin))))
    · exact Ev.neg g (Ev.pos (by omega) (Ev.pos (by omega) (Ev.pos (by omega) fin)))
  | succ d ih =>
    intro k hd hk hp
    refine Ev.shift ?_
    simp only [marginaliaref01_Diff.l1]
    rw [w64 (n := (a.size : Int) - n) (by omega) (by omega), w64 (n := (b.size : Int) - n) (by omega) (by omega), w64 (n := (b.size : Int) - k) (by omega) (by omega), w64 (n := (a.size : Int) - k) (by omega) (by omega), w64 (n := (a.size : Int) - 1) (by omega) (by omega), w64 (n := (b.size : Int) - 1) (by omega) (by omega), w64 (n := (a.size : Int) - 1 - k) (by omega) (by omega), w64 (n := (b.size : Int) - 1 - k) (by omega) (by omega), w64 (n := (k : Int) + 1) (by omega) (by omega)]
    refine Ev.pos (by omega) (Ev.pos (by omega) (Ev.pos (by omega) (Ev.pos (by omega) (Ev.pos (by omega) (Ev.pos (by omega) ?_)))))
    rw [show (a.size : Int) - 1 - k = ((a.size - 1 - k : Nat) : Int) by omega, show (b.size : Int) - 1 - k = ((b.size - 1 - k : Nat) : Int) by omega]
    by_cases g : k < pre a.data.toList.reverse b.data.toList.reverse
    · refine Ev.pos ((suf_step a b n k (by omega) hp).2 g) ?_
      exact ih (k + 1) (by omega) (by omega) (by omega)
    · refine Ev.neg (fun e => g ((suf_step a b n k (by omega) hp).1 e)) (Ev.pos (by omega) (Ev.pos (by omega) (Ev.pos (by omega) ?_)))
      have e : suf a b n = k := by unfold suf; omega
      rw [e]
      have e2 : ((b.size : Int) - k).toNat = b.size - k := by omega
      rw [e2]
      exact Ev.now _
def diff (a b : ByteArray) : List Ed := if a.toList = b.toList then [] else [ed a b (pre a.data.toList b.data.toList) (suf a b (pre a.data.toList b.data.toList))]
theorem pre_min (a b : ByteArray) : pre a.data.toList b.data.toList ≤ min a.size b.size := by
  have := pre_le a.data.toList b.data.toList
  simp only [Ut.size_data] at this
  omega
theorem diff_ev (a b : ByteArray) (ha : a.size ≤ 20001) (hb : b.size ≤ 20001) : Ev (fun k => rope_Diff.f k a b) (if max a.size b.size > 20000 then ([], 3) else (diff a b, 0)) := by
  unfold rope_Diff.f diff
  rw [mx_nat]
  by_cases h : max a.size b.size > 20000
  · simp only [if_pos h]
    exact Ev.pos (by omega) (Ev.now _)
  simp only [if_neg h]
  refine Ev.neg (by omega) ?_
  by_cases g : a.toList = b.toList
  · simp only [if_pos g]
    exact Ev.now _
  simp only [if_neg g]
  refine diff_l0 a b ha hb _ 0 rfl (by omega) _ ?_
  simp only [List.drop_zero, Nat.zero_add]
  refine Ev.shift ?_
  simp only [rope_Diff.j1]
  exact diff_l1 a b ha hb _ (pre_min a b) _ 0 rfl (by omega) (by omega)
theorem rdiff_ev (a b : ByteArray) (ha : a.size ≤ 20001) (hb : b.size ≤ 20001) : Ev (fun k => marginaliaref01_Diff.f k a b) (diff a b) := by
  unfold marginaliaref01_Diff.f diff
  by_cases g : a.toList = b.toList
  · simp only [if_pos g]
    exact Ev.now _
  simp only [if_neg g]
  refine rdiff_l0 a b ha hb _ 0 rfl (by omega) _ ?_
  simp only [List.drop_zero, Nat.zero_add]
  refine Ev.shift ?_
  simp only [marginaliaref01_Diff.j1]
  exact rdiff_l1 a b ha hb _ (pre_min a b) _ 0 rfl (by omega) (by omega)
--MARK4
end Go.Proofs.Ytfllpoonfhiipaa.P
