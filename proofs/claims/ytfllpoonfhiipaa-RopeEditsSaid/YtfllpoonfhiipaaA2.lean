/- What the claim's row needs of the seat's texts, part 2: put together by a program of this session (declarations that no text of the claim names are left out). -/
import Derived.Deep.OwnRows
import Derived.Deep.AppendLies
import Derived.Lib.AppendStr
import Derived.Deep.RegionHeld3
import Derived.Deep.RegionLaw
import Derived.Lib.BufferMore
import Derived.Deep.QuietTactic
import Derived.Test.YtfllpoonfhiipaaProg
import Derived.Below
import Derived.Deep.Draws
import Derived.Maps.AppendAt
import Derived.OwnWalk
import Derived.Laws.BytesArg
import Derived.Laws.MakeOwn
import Derived.Laws.OwnMore
import Derived.Tactics
import Derived.Lib.ConvBytes
import Derived.Laws.Slices
import Derived.WalkKit
import Derived.KernelRfl
import Derived.RowKit3
import Derived.Deep.LoopGhost
import Derived.BigQuiet
import Derived.WideLaws
import Derived.Deep.DeepCutAuto
import Derived.Deep.CutBlock
import Derived.Laws.Rows
import Derived.ArgAppend
import Derived.Laws.IdiomCopy
import Derived.OrdersHeld
import Derived.Laws.BitsLemmas
import Derived.RowKit
import Derived.Outline
import Derived.Deep.RegionLawGrows
import Derived.Test.YtfllpoonfhiipaaA1
namespace Go.Proofs.Ytfllpoonfhiipaa.P
open Go.RowKit Go.Proofs.YtfllpoonfhiipaaW.PrintWords Go.Proofs.YtfllpoonfhiipaaW.PrintLast Go.Proofs.YtfllpoonfhiipaaW.PrintMore
attribute [local go_sem] max2_int min2_int max_two min_two max_three min_three max_four min_four
set_option linter.unusedVariables false
set_option linter.unusedSimpArgs false

/-! ### marginaliaref01_Apply: function 22 -/
def marginaliaref01_Apply.l0 : Nat → ByteArray → List (S47) → ByteArray → Int → Int → Option (ByteArray)
  | 0, _, _, _, _, _ => none
  | k + 1, x0, x1, x5, x6, x7 => if x7 < (x1.length : Int) then (if 0 ≤ x7 then (if 0 ≤ x6 then (if x6 ≤ ((rd_T47 x1 x7).f0) then (if ((rd_T47 x1 x7).f0) ≤ (x0.size : Int) then (if x5.size + (x0.extract (x6 : Int).toNat (((rd_T47 x1 x7).f0) : Int).toNat).size ≤ 9223372036854775807 then (if (x5 ++ (x0.extract (x6 : Int).toNat (((rd_T47 x1 x7).f0) : Int).toNat)).size + ((rd_T47 x1 x7).f2).size ≤ 9223372036854775807 then (marginaliaref01_Apply.l0 k x0 x1 ((x5 ++ (x0.extract (x6 : Int).toNat (((rd_T47 x1 x7).f0) : Int).toNat)) ++ ((rd_T47 x1 x7).f2)) ((rd_T47 x1 x7).f1) (wrap64 (x7 + 1))) else (none)) else (none)) else (none)) else (none)) else (none)) else (none)) else (if 0 ≤ x6 then (if x6 ≤ (x0.size : Int) then (if x5.size + (x0.extract (x6 : Int).toNat x0.size).size ≤ 9223372036854775807 then (some (x5 ++ (x0.extract (x6 : Int).toNat x0.size))) else (none)) else (none)) else (none))
def marginaliaref01_Apply.f (k : Nat) (a0 : ByteArray) (l1 : List (S47)) : Option (ByteArray) := marginaliaref01_Apply.l0 k a0 l1 (⟨#[]⟩ : ByteArray) 0 0
set_option maxHeartbeats 8000000 in
set_option maxRecDepth 100000 in
theorem marginaliaref01_Apply.calls (k : Nat) (a0 : ByteArray) (A1 : Option Addr) (c1 : Nat) (l1 : List (S47)) (r : ByteArray) (w : World) (hr1 : Kd.C k47 w A1 l1.length l1) (hc1 : l1.length ≤ c1) (h : marginaliaref01_Apply.f k a0 l1 = some r) :
    Calls Try.prog 22 #[.string a0, .slice A1 l1.length c1] w fun e w' => e = .returned (.string r) ∧ Drawn0 w w' := by
  have HR1 := Aside0.mk hr1
  have HC1 := Aside0.mk hc1
  clear hr1 hc1
  have H : (marginaliaref01_Apply.l0 k a0 l1 (⟨#[]⟩ : ByteArray) 0 0) = some r := h
  clear h
  have H' := Aside0.mk H
  clear H
  go_enter Try.func22, Try.ntmps22
  go_wp2
  repeat (go_quiet (fail); try go_wp2)
  go_loopg [5, 6, 7] k (fun kq v5 v6 v7 w' => ∃ (x5_1 : ByteArray) (x6_1 : Int) (x7_1 : Int), v5 = .string x5_1 ∧ v6 = .int .i64 x6_1 ∧ v7 = .int .i64 x7_1 ∧ Aside0 (marginaliaref01_Apply.l0 kq a0 l1 x5_1 x6_1 x7_1 = some r) ∧ Aside0 (kq ≤ k) ∧ Drawn0 w w')
  case atStart => exact ⟨((⟨#[]⟩ : ByteArray)), (0), (0), (by first | rfl | (simp; done) | (simp [*]; done)), (by first | rfl | (simp; done) | (simp [*]; done)), (by first | rfl | (simp; done) | (simp [*]; done)), H', ⟨Nat.le_refl _⟩, by repeat (first | exact Drawn0.refl _ | apply Drawn0.step)⟩
  case round =>
    clear H'
    try clear c1
    try clear c2
    try clear p2
    obtain ⟨x5_1, x6_1, x7_1, rfl, rfl, rfl, HA, HK1, ⟨m1, rfl⟩⟩ := hrel
    cases gk with
    | zero => exact absurd HA.out (by simp [marginaliaref01_Apply.l0])
    | succ k1 =>
      have H := HA.out
      clear HA
      simp only [marginaliaref01_Apply.l0] at H
      by_cases c3 : x7_1 < (l1.length : Int)
      · rw [if_pos c3] at H
        have c3b0 : decide (x7_1 < (l1.length : Int)) = true := decide_eq_true c3
        clear c3
        by_cases c4 : 0 ≤ x7_1
        · rw [if_pos c4] at H
          have c4b0 : decide (0 ≤ x7_1) = true := decide_eq_true c4
          clear c4
          by_cases c5 : 0 ≤ x6_1
          · rw [if_pos c5] at H
            have c5b0 := eq_true c5
            have c5b1 : decide (0 ≤ x6_1) = true := decide_eq_true c5
            clear c5
            by_cases c6 : x6_1 ≤ ((rd_T47 l1 x7_1).f0)
            · rw [if_pos c6] at H
              have c6b0 := eq_true c6
              have c6b1 : decide (x6_1 ≤ ((rd_T47 l1 x7_1).f0)) = true := decide_eq_true c6
              clear c6
              by_cases c7 : ((rd_T47 l1 x7_1).f0) ≤ (a0.size : Int)
              · rw [if_pos c7] at H
                have c7b0 := eq_true c7
                have c7b1 : decide (((rd_T47 l1 x7_1).f0) ≤ (a0.size : Int)) = true := decide_eq_true c7
                clear c7
                by_cases c8 : x5_1.size + (a0.extract (x6_1 : Int).toNat (((rd_T47 l1 x7_1).f0) : Int).toNat).size ≤ 9223372036854775807
                · rw [if_pos c8] at H
                  have c8b0 := eq_true c8
                  have c8b1 : decide (x5_1.size + (a0.extract (x6_1 : Int).toNat (((rd_T47 l1 x7_1).f0) : Int).toNat).size ≤ 9223372036854775807) = true := decide_eq_true c8
                  try have c8b2 : (9223372036854775807 < x5_1.size + (a0.extract (x6_1 : Int).toNat (((rd_T47 l1 x7_1).f0) : Int).toNat).size) = False := eq_false (Nat.not_lt.2 c8)
                  by_cases c9 : (x5_1 ++ (a0.extract (x6_1 : Int).toNat (((rd_T47 l1 x7_1).f0) : Int).toNat)).size + ((rd_T47 l1 x7_1).f2).size ≤ 9223372036854775807
                  · rw [if_pos c9] at H
                    have c9b0 := eq_true c9
                    have c9b1 : decide ((x5_1 ++ (a0.extract (x6_1 : Int).toNat (((rd_T47 l1 x7_1).f0) : Int).toNat)).size + ((rd_T47 l1 x7_1).f2).size ≤ 9223372036854775807) = true := decide_eq_true c9
                    try have c9b2 : (9223372036854775807 < (x5_1 ++ (a0.extract (x6_1 : Int).toNat (((rd_T47 l1 x7_1).f0) : Int).toNat)).size + ((rd_T47 l1 x7_1).f2).size) = False := eq_false (Nat.not_lt.2 c9)
                    have H' := Aside0.mk H
                    clear H
                    have p136 : 0 ≤ (x7_1 : Int) := of_decide_eq_true (by first | (with_reducible assumption) | assumption)
                    have q136 : x7_1 < (l1.length : Int) := of_decide_eq_true (by first | (with_reducible assumption) | assumption)
                    obtain ⟨ad136, e136, hx136_0, hx136_1, hx136_2⟩ := at_T47 HR1.out x7_1 p136 q136
                    cases e136
                    replace p136 := eq_true p136
                    replace q136 := eq_true q136
                    have p137 : 0 ≤ (x7_1 : Int) := of_decide_eq_true (by first | (with_reducible assumption) | assumption)
                    have q137 : x7_1 < (l1.length : Int) := of_decide_eq_true (by first | (with_reducible assumption) | assumption)
                    obtain ⟨ad137, e137, hx137_0, hx137_1, hx137_2⟩ := at_T47 HR1.out x7_1 p137 q137
                    obtain rfl : ad136 = ad137 := (by injection e137)
                    replace p137 := eq_true p137
                    replace q137 := eq_true q137
                    have p138 : 0 ≤ (x7_1 : Int) := of_decide_eq_true (by first | (with_reducible assumption) | assumption)
                    have q138 : x7_1 < (l1.length : Int) := of_decide_eq_true (by first | (with_reducible assumption) | assumption)
                    obtain ⟨ad138, e138, hx138_0, hx138_1, hx138_2⟩ := at_T47 HR1.out x7_1 p138 q138
                    obtain rfl : ad136 = ad138 := (by injection e138)
                    replace p138 := eq_true p138
                    replace q138 := eq_true q138
                    go_wp2
                    repeat (go_quiet (fail); try go_wp2)
                    go_roundg k1
                    case measure => have := HK1.out; omega
                    case rel => exact ⟨((x5_1 ++ (a0.extract (x6_1 : Int).toNat (((rd_T47 l1 x7_1).f0) : Int).toNat)) ++ ((rd_T47 l1 x7_1).f2)), ((rd_T47 l1 x7_1).f1), (wrap64 (x7_1 + 1)), (by first | rfl | (simp; done) | (simp [*]; done)), (by first | rfl | (simp; done) | (simp [*]; done)), (by first | rfl | (simp; done) | (simp [*]; done)), H', ⟨by have := HK1.out; omega⟩, by repeat (first | exact Drawn0.refl _ | apply Drawn0.step)⟩
                  · rw [if_neg c9] at H
                    exact absurd H (by simp)
                · rw [if_neg c8] at H
                  exact absurd H (by simp)
              · rw [if_neg c7] at H
                exact absurd H (by simp)
            · rw [if_neg c6] at H
              exact absurd H (by simp)
          · rw [if_neg c5] at H
            exact absurd H (by simp)
        · rw [if_neg c4] at H
          exact absurd H (by simp)
      · rw [if_neg c3] at H
        have c3b0 : decide (x7_1 < (l1.length : Int)) = false := decide_eq_false c3
        clear c3
        by_cases c10 : 0 ≤ x6_1
        · rw [if_pos c10] at H
          have c10b0 := eq_true c10
          have c10b1 : decide (0 ≤ x6_1) = true := decide_eq_true c10
          clear c10
          by_cases c11 : x6_1 ≤ (a0.size : Int)
          · rw [if_pos c11] at H
            have c11b0 := eq_true c11
            have c11b1 : decide (x6_1 ≤ (a0.size : Int)) = true := decide_eq_true c11
            clear c11
            by_cases c12 : x5_1.size + (a0.extract (x6_1 : Int).toNat a0.size).size ≤ 9223372036854775807
            · rw [if_pos c12] at H
              have c12b0 := eq_true c12
              have c12b1 : decide (x5_1.size + (a0.extract (x6_1 : Int).toNat a0.size).size ≤ 9223372036854775807) = true := decide_eq_true c12
              try have c12b2 : (9223372036854775807 < x5_1.size + (a0.extract (x6_1 : Int).toNat a0.size).size) = False := eq_false (Nat.not_lt.2 c12)
              obtain rfl := Option.some.inj H
              go_wp2
              repeat (go_quiet (fail); try go_wp2)
              go_ret
              exact ⟨by first | rfl | (simp; done) | (simp [*]; done), by repeat (first | exact Drawn0.refl _ | apply Drawn0.step)⟩
            · rw [if_neg c12] at H
              exact absurd H (by simp)
          · rw [if_neg c11] at H
            exact absurd H (by simp)
        · rw [if_neg c10] at H
          exact absurd H (by simp)

end Go.Proofs.Ytfllpoonfhiipaa.P

set_option linter.unusedVariables false
set_option linter.unusedSimpArgs false
namespace Go.Proofs.Ytfllpoonfhiipaa.P
open Go.RowKit Go.Proofs.YtfllpoonfhiipaaW.PrintWords Go.Proofs.YtfllpoonfhiipaaW.PrintLast Go.Proofs.YtfllpoonfhiipaaW.PrintMore
/-! ### rounds -/
theorem Ev.shift {α : Type} {g : Nat → Option α} {r : α} (h : Ev (fun k => g (k + 1)) r) : Ev g r := Ev.step (fun _ => rfl) h
theorem Ev.pos {α : Type} {c : Prop} [Decidable c] {f g : Nat → Option α} {r : α} (h : c) (k : Ev f r) : Ev (fun n => if c then f n else g n) r := by
  simp only [if_pos h]
  exact k
theorem Ev.neg {α : Type} {c : Prop} [Decidable c] {f g : Nat → Option α} {r : α} (h : ¬ c) (k : Ev g r) : Ev (fun n => if c then f n else g n) r := by
  simp only [if_neg h]
  exact k
theorem w64 {n : Int} (h : -9223372036854775808 ≤ n) (h' : n ≤ 9223372036854775807) : wrap64 n = n := by unfold wrap64; omega
abbrev Ed := S47
theorem rd_at {l : List Ed} {i : Nat} {e : Ed} {r : List Ed} (h : l.drop i = e :: r) : rd_T47 l (i : Int) = e := by
  have h1 : l[i]? = some e := by
    have := congrArg (fun x : List Ed => x[0]?) h
    simpa [List.getElem?_drop] using this
  simp [rd_T47, List.getD_eq_getElem?_getD, h1]
theorem lt_of_drop {α : Type} {l : List α} {i : Nat} {e : α} {r : List α} (h : l.drop i = e :: r) : i < l.length := by
  have := congrArg List.length h
  simp at this
  omega
theorem drop_next {α : Type} {l : List α} {i : Nat} {e : α} {r : List α} (h : l.drop i = e :: r) : l.drop (i + 1) = r := by
  have := congrArg (List.drop 1) h
  simpa [List.drop_drop, Nat.add_comm] using this
theorem le_of_nil {α : Type} {l : List α} {i : Nat} (h : l.drop i = []) : l.length ≤ i := by
  have := congrArg List.length h
  simp at this
  omega

/-! ### Short, Cut -/
theorem mn_nat (a b : Nat) : mn (a : Int) (b : Int) = ((min a b : Nat) : Int) := by unfold mn; (repeat' split) <;> omega
def short (s : ByteArray) : ByteArray := s.extract 0 (min s.size 20001)
theorem Short_eq (s : ByteArray) : marginaliaref01_Short.f s = some (short s) := by
  have h : mn (s.size : Int) 20001 = ((min s.size 20001 : Nat) : Int) := mn_nat s.size 20001
  unfold marginaliaref01_Short.f
  rw [h, if_pos (by omega), if_pos (by omega)]
  simp [short]
theorem short_size (s : ByteArray) : (short s).size ≤ 20001 := by
  simp only [short, ByteArray.size_extract]
  omega
/-- An edit whose numbers are ints. -/
def Ok (e : Ed) : Prop := (-9223372036854775808 ≤ e.f0 ∧ e.f0 ≤ 9223372036854775807) ∧ (-9223372036854775808 ≤ e.f1 ∧ e.f1 ≤ 9223372036854775807)
def cutE (n : Nat) (e : Ed) : Ed := ⟨e.f0, e.f1, e.f2.extract 0 (min e.f2.size n)⟩
def cut (n : Nat) (l : List Ed) : List Ed := (l.take 102).map (cutE n)
theorem Cut_loop (l : List Ed) (n : Nat) (hl : l.length ≤ 9223372036854775807) : ∀ (d i : Nat) (acc : List Ed), 102 - i = d → i ≤ 102 → acc.length ≤ 102 → acc.length = i →
    Ev (fun k => marginaliaref01_Cut.l0 k l (n : Int) acc (i : Int)) (acc ++ ((l.drop i).take (102 - i)).map (cutE n)) := by
  intro d
  induction d with
  | zero =>
    intro i acc hd hi ha hai
    refine Ev.shift ?_
    simp only [marginaliaref01_Cut.l0]
    rw [show 102 - i = 0 by omega]
    by_cases hlt : (i : Int) < (l.length : Int)
    · refine Ev.pos hlt (Ev.neg (by omega) ?_)
      simpa using Ev.now acc
    · refine Ev.neg hlt ?_
      simpa using Ev.now acc
  | succ d ih =>
    intro i acc hd hi ha hai
    refine Ev.shift ?_
    simp only [marginaliaref01_Cut.l0]
    cases hdr : l.drop i with
    | nil =>
      have := le_of_nil hdr
      refine Ev.neg (by omega) ?_
      simpa using Ev.now acc
    | cons e r =>
      have hlt := lt_of_drop hdr
      rw [rd_at hdr, mn_nat]
      refine Ev.pos (by omega) (Ev.pos (by omega) (Ev.pos (by omega) (Ev.pos (by omega) (Ev.pos (by omega) (Ev.pos (by omega) ?_)))))
      rw [w64 (by omega) (by omega)]
      have h := ih (i + 1) (acc ++ [cutE n e]) (by omega) (by omega) (by simp; omega) (by simp; omega)
      rw [drop_next hdr] at h
      rw [show 102 - i = (102 - (i + 1)) + 1 by omega]
      simpa [cutE] using h
theorem Cut_ev (l : List Ed) (n : Nat) (hl : l.length ≤ 9223372036854775807) : Ev (fun k => marginaliaref01_Cut.f k l (n : Int)) (cut n l) := by
  have h := Cut_loop l n hl 102 0 [] rfl (by omega) (by simp) rfl
  simpa [cut, marginaliaref01_Cut.f] using h
theorem cut_length (n : Nat) (l : List Ed) : (cut n l).length ≤ 102 := by simp [cut]; omega
/-- What Cut leaves. -/
def Fine (n : Nat) (l : List Ed) : Prop := l.length ≤ 102 ∧ ∀ e ∈ l, Ok e ∧ e.f2.size ≤ n
theorem cut_fine {n : Nat} {l : List Ed} (h : ∀ e ∈ l, ok47 e) : Fine n (cut n l) := by
  refine ⟨cut_length n l, fun e he => ?_⟩
  obtain ⟨x, hx, rfl⟩ := List.mem_map.1 he
  have := h x (List.mem_of_mem_take hx)
  refine ⟨⟨this.1, this.2.1⟩, ?_⟩
  simp only [cutE, ByteArray.size_extract]
  omega

/-! ### Check -/
def sp (m : Int) : Int → List Ed → Bool
  | _, [] => true
  | p, e :: r => decide (p ≤ e.f0) && (decide (e.f0 ≤ e.f1) && (decide (e.f1 ≤ m) && sp m e.f1 r))
theorem sp_cons {m p : Int} {e : Ed} {r : List Ed} (h : sp m p (e :: r) = true) : p ≤ e.f0 ∧ e.f0 ≤ e.f1 ∧ e.f1 ≤ m ∧ sp m e.f1 r = true := by
  simpa [sp] using h
def spanSum (l : List Ed) : Int := (l.map fun e => e.f1 - e.f0).sum
def newSum (l : List Ed) : Nat := (l.map fun e => e.f2.size).sum
theorem spanSum_cons (e : Ed) (r : List Ed) : spanSum (e :: r) = (e.f1 - e.f0) + spanSum r := by simp [spanSum]
theorem newSum_cons (e : Ed) (r : List Ed) : newSum (e :: r) = e.f2.size + newSum r := by simp [newSum]
theorem span_le {m : Int} : ∀ {p : Int} {l : List Ed}, sp m p l = true → p ≤ m → 0 ≤ spanSum l ∧ spanSum l ≤ m - p
  | p, [], _, hp => by simp [spanSum]; omega
  | p, e :: r, h, hp => by
    obtain ⟨h1, h2, h3, h4⟩ := sp_cons h
    have := span_le h4 h3
    rw [spanSum_cons]
    omega
theorem newSum_le {n : Nat} {l : List Ed} (h : ∀ e ∈ l, Ok e ∧ e.f2.size ≤ n) : newSum l ≤ l.length * n := by
  induction l with
  | nil => simp [newSum]
  | cons e r ih =>
    have h1 := (h e (by simp)).2
    have h2 := ih (fun x hx => h x (by simp [hx]))
    rw [newSum_cons, List.length_cons, Nat.add_mul, Nat.one_mul]
    omega
/-- Edits that are few, with News that are not long together. -/
def Fit (l : List Ed) : Prop := l.length ≤ 102 ∧ newSum l ≤ 1000000
theorem Fine.fit {n : Nat} {l : List Ed} (hf : Fine n l) (hn : n ≤ 9000) : Fit l := by
  have h1 := newSum_le hf.2
  have h2 : l.length * n ≤ 102 * 9000 := Nat.mul_le_mul hf.1 hn
  exact ⟨hf.1, by omega⟩
/-- The error of edits of a text of so many bytes. -/
def chk (n : Int) (l : List Ed) : Int :=
  if n > 20000 then 3 else if (l.length : Int) > 100 then 3 else if sp n 0 l = true then (if n - spanSum l + newSum l > 20000 then 7 else 0) else 2
theorem spans_loop (l : List Ed) (m : Int) (hl : l.length ≤ 9223372036854775807) : ∀ (r : List Ed) (i : Nat) (p : Int), l.drop i = r →
    Ev (fun k => rope_spans.l0 k m p l (l.length : Int) (i : Int)) (if sp m p r = true then 0 else 2) := by
  intro r
  induction r with
  | nil =>
    intro i p hd
    have := le_of_nil hd
    refine Ev.shift ?_
    simp only [rope_spans.l0]
    refine Ev.neg (by omega) ?_
    simpa [sp] using Ev.now (0 : Int)
  | cons e r ih =>
    intro i p hd
    have hlt := lt_of_drop hd
    refine Ev.shift ?_
    simp only [rope_spans.l0]
    rw [rd_at hd]
    refine Ev.pos (by omega) (Ev.pos (by omega) (Ev.pos (by omega) ?_))
    by_cases h1 : e.f0 < p
    · refine Ev.pos h1 ?_
      rw [if_neg (by simp [sp]; intro h; omega)]
      exact Ev.now _
    refine Ev.neg h1 ?_
    by_cases h2 : e.f1 < e.f0
    · refine Ev.pos h2 ?_
      rw [if_neg (by simp [sp]; intro _ h; omega)]
      exact Ev.now _
    refine Ev.neg h2 ?_
    by_cases h3 : e.f1 > m
    · refine Ev.pos h3 ?_
      rw [if_neg (by simp [sp]; intro _ _ h; omega)]
      exact Ev.now _
    refine Ev.neg h3 ?_
    rw [w64 (by omega) (by omega)]
    have h := ih (i + 1) e.f1 (drop_next hd)
    have e1 : sp m p (e :: r) = sp m e.f1 r := by
      simp only [sp]
      rw [decide_eq_true (by omega), decide_eq_true (by omega), decide_eq_true (by omega)]
      rfl
    rw [e1]
    simpa using h
theorem spans_ev (l : List Ed) (m : Int) (hl : l.length ≤ 9223372036854775807) : Ev (fun k => rope_spans.f k m l) (if (l.length : Int) > 100 then 3 else if sp m 0 l = true then 0 else 2) := by
  unfold rope_spans.f
  by_cases h : (l.length : Int) > 100
  · rw [if_pos h]
    exact Ev.pos h (Ev.now _)
  · rw [if_neg h]
    exact Ev.neg h (spans_loop l m hl l 0 0 rfl)
theorem check_l1 (l : List Ed) (hl : l.length ≤ 9223372036854775807) (hn : newSum l ≤ 1000000) : ∀ (r : List Ed) (i : Nat) (x : Int), l.drop i = r → 0 ≤ x → x ≤ 20000 → newSum r ≤ 1000000 →
    Ev (fun k => rope_check.l1 k x l (l.length : Int) (i : Int)) (if x + newSum r > 20000 then 7 else 0) := by
  intro r
  induction r with
  | nil =>
    intro i x hd hx hx2 _
    have := le_of_nil hd
    refine Ev.shift ?_
    simp only [rope_check.l1]
    refine Ev.neg (by omega) ?_
    rw [if_neg (by simp [newSum]; omega)]
    exact Ev.now _
  | cons e r ih =>
    intro i x hd hx hx2 hns
    have hlt := lt_of_drop hd
    rw [newSum_cons] at hns ⊢
    refine Ev.shift ?_
    simp only [rope_check.l1]
    rw [rd_at hd]
    refine Ev.pos (by omega) (Ev.pos (by omega) (Ev.pos (by omega) ?_))
    rw [w64 (n := 20000 - x) (by omega) (by omega)]
    by_cases h1 : (e.f2.size : Int) > 20000 - x
    · rw [if_pos (by omega)]
      exact Ev.pos h1 (Ev.now _)
    · refine Ev.neg h1 ?_
      rw [w64 (n := x + _) (by omega) (by omega), w64 (by omega) (by omega)]
      have h := ih (i + 1) (x + e.f2.size) (drop_next hd) (by omega) (by omega) (by omega)
      rw [show x + (e.f2.size : Int) + (newSum r : Int) = x + ((e.f2.size + newSum r : Nat) : Int) by omega] at h
      simpa using h
theorem check_l0 (l : List Ed) (m : Int) (hm : m ≤ 20000) (hl : l.length ≤ 9223372036854775807) (hn : newSum l ≤ 1000000) : ∀ (r : List Ed) (i : Nat) (x p : Int), l.drop i = r → sp m p r = true → 0 ≤ p → p ≤ m → spanSum r ≤ x → x ≤ 20000 →
    Ev (fun k => rope_check.l0 k l x l (l.length : Int) (i : Int)) (if x - spanSum r + newSum l > 20000 then 7 else 0) := by
  intro r
  induction r with
  | nil =>
    intro i x p hd hs hp hp2 hx hx2
    have := le_of_nil hd
    refine Ev.shift ?_
    simp only [rope_check.l0]
    refine Ev.neg (by omega) ?_
    have hz : spanSum ([] : List Ed) = 0 := by simp [spanSum]
    rw [hz] at hx ⊢
    have h := check_l1 l hl hn l 0 x rfl hx hx2 hn
    simpa using h
  | cons e r ih =>
    intro i x p hd hs hp hp2 hx hx2
    have hlt := lt_of_drop hd
    obtain ⟨h1, h2, h3, h4⟩ := sp_cons hs
    have h5 := span_le h4 h3
    rw [spanSum_cons] at hx ⊢
    refine Ev.shift ?_
    simp only [rope_check.l0]
    rw [rd_at hd]
    refine Ev.pos (by omega) (Ev.pos (by omega) (Ev.pos (by omega) ?_))
    rw [w64 (n := e.f0 - e.f1) (by omega) (by omega), w64 (n := x + _) (by omega) (by omega), w64 (by omega) (by omega)]
    have h := ih (i + 1) (x + (e.f0 - e.f1)) e.f1 (drop_next hd) h4 (by omega) h3 (by omega) (by omega)
    rw [show x + (e.f0 - e.f1) - spanSum r = x - (e.f1 - e.f0 + spanSum r) by omega] at h
    simpa using h
theorem rcheck_loop (s : ByteArray) (l : List Ed) (hs : s.size ≤ 20000) (hl : l.length ≤ 9223372036854775807) : ∀ (r : List Ed) (i : Nat) (p x : Int), l.drop i = r → 0 ≤ p → p ≤ s.size → s.size - p ≤ x → x + newSum r ≤ 2000000 →
    Ev (fun k => marginaliaref01_Check.l0 k s l p x (i : Int)) (if sp s.size p r = true then (if x - spanSum r + newSum r > 20000 then 7 else 0) else 2) := by
  intro r
  induction r with
  | nil =>
    intro i p x hd hp hp2 hx hx2
    have := le_of_nil hd
    refine Ev.shift ?_
    simp only [marginaliaref01_Check.l0]
    refine Ev.neg (by omega) ?_
    by_cases h : x > 20000
    · refine Ev.pos h ?_
      simpa [sp, spanSum, newSum, h] using Ev.now (7 : Int)
    · refine Ev.neg h ?_
      simpa [sp, spanSum, newSum, h] using Ev.now (0 : Int)
  | cons e r ih =>
    intro i p x hd hp hp2 hx hx2
    have hlt := lt_of_drop hd
    rw [newSum_cons] at hx2
    refine Ev.shift ?_
    simp only [marginaliaref01_Check.l0]
    rw [rd_at hd]
    refine Ev.pos (by omega) (Ev.pos (by omega) ?_)
    by_cases h1 : e.f0 < p
    · refine Ev.pos h1 ?_
      rw [if_neg (by simp [sp]; intro h; omega)]
      exact Ev.now _
    refine Ev.neg h1 ?_
    by_cases h2 : e.f1 < e.f0
    · refine Ev.pos h2 ?_
      rw [if_neg (by simp [sp]; intro _ h; omega)]
      exact Ev.now _
    refine Ev.neg h2 ?_
    by_cases h3 : e.f1 > s.size
    · refine Ev.pos h3 ?_
      rw [if_neg (by simp [sp]; intro _ _ h; omega)]
      exact Ev.now _
    refine Ev.neg h3 ?_
    rw [w64 (n := e.f1 - e.f0) (by omega) (by omega), w64 (n := (e.f2.size : Int) - _) (by omega) (by omega), w64 (n := x + _) (by omega) (by omega), w64 (by omega) (by omega)]
    have h := ih (i + 1) e.f1 (x + ((e.f2.size : Int) - (e.f1 - e.f0))) (drop_next hd) (by omega) (by omega) (by omega) (by omega)
    have e1 : sp s.size p (e :: r) = sp s.size e.f1 r := by
      simp only [sp]
      rw [decide_eq_true (by omega), decide_eq_true (by omega), decide_eq_true (by omega)]
      rfl
    rw [e1, spanSum_cons, newSum_cons]
    rw [show x + ((e.f2.size : Int) - (e.f1 - e.f0)) - spanSum r + (newSum r : Int) = x - (e.f1 - e.f0 + spanSum r) + ((e.f2.size + newSum r : Nat) : Int) by omega] at h
    simpa using h
theorem rcheck_ev (s : ByteArray) (l : List Ed) (hs : s.size ≤ 9223372036854775807) (hf : Fit l) : Ev (fun k => marginaliaref01_Check.f k s l) (chk s.size l) := by
  have hl : l.length ≤ 9223372036854775807 := by have := hf.1; omega
  have hns : newSum l ≤ 1000000 := hf.2
  unfold marginaliaref01_Check.f chk
  by_cases h1 : (s.size : Int) > 20000
  · simp only [if_pos h1]
    refine Ev.shift ?_
    simp only [marginaliaref01_Check.j0]
    exact Ev.pos (by simp) (Ev.now _)
  simp only [if_neg h1]
  refine Ev.shift ?_
  simp only [marginaliaref01_Check.j0]
  by_cases h2 : (l.length : Int) > 100
  · simp only [if_pos h2]
    exact Ev.pos (decide_eq_true h2) (Ev.now _)
  simp only [if_neg h2]
  refine Ev.neg (by simpa using h2) ?_
  exact rcheck_loop s l (by omega) hl l 0 0 s.size rfl (by omega) (by omega) (by omega) (by omega)
/-- What a check that passed says. -/
theorem chk_ok {n : Int} {l : List Ed} (h : chk n l = 0) : n ≤ 20000 ∧ l.length ≤ 100 ∧ sp n 0 l = true ∧ n - spanSum l + newSum l ≤ 20000 := by
  unfold chk at h
  split at h
  · cases h
  split at h
  · cases h
  split at h
  · split at h
    · cases h
    · exact ⟨by omega, by omega, by assumption, by omega⟩
  · cases h
/-! ### Apply -/
def ba (l : List UInt8) : ByteArray := ⟨l.toArray⟩
def cutS (s : ByteArray) (a b : Int) : List UInt8 := (s.extract a.toNat b.toNat).data.toList
theorem ba_size (l : List UInt8) : (ba l).size = l.length := by simp [ba, ByteArray.size]
theorem ba_list (l : List UInt8) : (ba l).data.toList = l := by simp [ba]
theorem list_ba (s : ByteArray) : ba s.data.toList = s := by
  apply ByteArray.ext
  simp [ba]
theorem ba_append (l : List UInt8) (s : ByteArray) : ba l ++ s = ba (l ++ s.data.toList) := by
  apply ByteArray.ext
  simp [ba]
theorem cutS_eq (s : ByteArray) (a b : Int) : cutS s a b = (s.data.toList.take b.toNat).drop a.toNat := by
  rw [cutS, ByteArray.data_extract, Array.toList_extract, List.extract_eq_take_drop, List.drop_take]
theorem cutS_length (s : ByteArray) (a b : Int) : (cutS s a b).length = min b.toNat s.size - a.toNat := by
  rw [cutS, Ut.size_data, ByteArray.size_extract]
def app (s : ByteArray) : Int → List Ed → List UInt8
  | p, [] => cutS s p s.size
  | p, e :: r => cutS s p e.f0 ++ e.f2.data.toList ++ app s e.f1 r
theorem app_length (s : ByteArray) : ∀ (l : List Ed) (p : Int), sp s.size p l = true → 0 ≤ p → p ≤ s.size → ((app s p l).length : Int) = s.size - p - spanSum l + newSum l
  | [], p, _, h0, h1 => by
    simp only [app, cutS_length, spanSum, newSum, List.map_nil, List.sum_nil]
    omega
  | e :: r, p, h, h0, h1 => by
    obtain ⟨h2, h3, h4, h5⟩ := sp_cons h
    have := app_length s r e.f1 h5 (by omega) h4
    rw [spanSum_cons, newSum_cons]
    simp only [app, List.length_append, cutS_length, Ut.size_data]
    omega
theorem rapply_loop (s : ByteArray) (l : List Ed) (hs : s.size ≤ 20000) (hl : l.length ≤ 102) : ∀ (r : List Ed) (i : Nat) (p : Int) (acc : List UInt8), l.drop i = r → sp s.size p r = true → 0 ≤ p → p ≤ s.size → acc.length + (app s p r).length ≤ 1000000 →
    Ev (fun k => marginaliaref01_Apply.l0 k s l (ba acc) p (i : Int)) (ba (acc ++ app s p r)) := by
  intro r
  induction r with
  | nil =>
    intro i p acc hd hsp h0 h1 hb
    have := le_of_nil hd
    have e : (s.extract p.toNat s.size).data.toList = app s p [] := by simp [app, cutS]
    have e2 : (s.extract p.toNat s.size).size = (app s p []).length := by rw [← e, Ut.size_data]
    refine Ev.shift ?_
    simp only [marginaliaref01_Apply.l0]
    refine Ev.neg (by omega) (Ev.pos h0 (Ev.pos h1 ?_))
    rw [ba_size, e2, ba_append, e]
    exact Ev.pos (by omega) (Ev.now _)
  | cons e r ih =>
    intro i p acc hd hsp h0 h1 hb
    have hlt := lt_of_drop hd
    obtain ⟨h2, h3, h4, h5⟩ := sp_cons hsp
    have e1 : (s.extract p.toNat e.f0.toNat).data.toList = cutS s p e.f0 := rfl
    have e2 : (s.extract p.toNat e.f0.toNat).size = (cutS s p e.f0).length := by rw [← e1, Ut.size_data]
    simp only [app, List.length_append, Ut.size_data] at hb
    refine Ev.shift ?_
    simp only [marginaliaref01_Apply.l0]
    rw [rd_at hd, ba_append, ba_append, ba_size, ba_size, e1, e2]
    refine Ev.pos (by omega) (Ev.pos (by omega) (Ev.pos h0 (Ev.pos h2 (Ev.pos (by omega) (Ev.pos (by omega) (Ev.pos (by simp only [List.length_append]; omega) ?_))))))
    rw [w64 (by omega) (by omega)]
    have h := ih (i + 1) e.f1 (acc ++ cutS s p e.f0 ++ e.f2.data.toList) (drop_next hd) h5 (by omega) h4 (by simp only [List.length_append, Ut.size_data]; omega)
    simpa [app] using h
theorem rapply_ev (s : ByteArray) (l : List Ed) (h : chk s.size l = 0) : Ev (fun k => marginaliaref01_Apply.f k s l) (ba (app s 0 l)) := by
  obtain ⟨h1, h2, h3, h4⟩ := chk_ok h
  have h5 := app_length s l 0 h3 (by omega) (by omega)
  have := rapply_loop s l (by omega) (by omega) l 0 0 [] rfl h3 (by omega) (by omega) (by simp only [List.length_nil]; omega)
  exact this

theorem bt_get (s : ByteArray) (i : Nat) (h : i < s.data.toList.length) : bt s (i : Int) = ((s.data.toList[i]).toNat : Int) := by
  have h' : i < s.size := by rw [← Ut.size_data]; exact h
  rw [← bt_at s (i : Int) h']
  rfl
end Go.Proofs.Ytfllpoonfhiipaa.P

set_option linter.unusedVariables false
namespace Go.Proofs.Ytfllpoonfhiipaa.Rope
open Go.RowKit Go.Proofs.Ytfllpoonfhiipaa Go.Proofs.Ytfllpoonfhiipaa.P Go.Proofs.Ytfllpoonfhiipaa.Bld Go.Proofs.YtfllpoonfhiipaaW.PrintWords Go.Proofs.YtfllpoonfhiipaaW.PrintLast Go.Proofs.YtfllpoonfhiipaaW.PrintMore
attribute [local go_sem] max2_int min2_int max_two min_two max_three min_three max_four min_four
theorem infoString : (Try.prog.info? 9).map (fun i => (i.zero, i.size, i.bytes)) = some (some (.string ⟨#[]⟩), 1, 16) := by kernel_rfl
theorem tot_cons (s : ByteArray) (r : List ByteArray) : tot (s :: r) = s.size + tot r := by simp [tot]
/-- The pieces of a span. -/
def cutP (a b : Int) : Int → List ByteArray → List ByteArray
  | _, [] => []
  | p, s :: r => if (if a - p < 0 then 0 else a - p) < (if (s.size : Int) < b - p then (s.size : Int) else b - p) then s.extract (if a - p < 0 then 0 else a - p).toNat (if (s.size : Int) < b - p then (s.size : Int) else b - p).toNat :: cutP a b (p + s.size) r else cutP a b (p + s.size) r
theorem cutP_length (a b : Int) : ∀ (r : List ByteArray) (p : Int), (cutP a b p r).length ≤ r.length
  | [], _ => by simp [cutP]
  | s :: r, p => by
    have := cutP_length a b r (p + s.size)
    simp only [cutP]
    generalize (if a - p < 0 then 0 else a - p) = x
    generalize (if (s.size : Int) < b - p then (s.size : Int) else b - p) = y
    split <;> simp <;> omega
def SR (w : World) (B : Nat) (v : Value) (xs : List ByteArray) : Prop := w.ownsRow B 9 1 v xs.length (xs.map Value.string)
set_option maxHeartbeats 4000000 in
set_option maxRecDepth 100000 in
theorem cut_ok (v : Value) (r : Rp) (a b : Int) (w : World) (h : IsRp w v r) (hs : tot r.ps ≤ 1000000) (ha : 0 ≤ a) (ha2 : a ≤ 1000000) (hb : 0 ≤ b) (hb2 : b ≤ 1000000) (hn : r.ps.length ≤ 1000000) :
    Calls Try.prog 50 #[v, .int .i64 a, .int .i64 b] w fun e w' => ∃ u, e = .returned u ∧ SR w' w.heap.size u (cutP a b 0 r.ps) ∧ Below w.heap.size w w' := by
  obtain ⟨g, u, rfl, hl⟩ := h.open
  obtain ⟨A, c, h0, h1, h2, h3, hc, hr⟩ := hl.cells
  obtain ⟨i0, hi, hz0, hz1, hz2⟩ := info_parts infoString
  have HR := Aside0.mk hr
  clear hr h hl h1 h2 h3
  go_enter Try.func50, Try.ntmps50
  go_wp2_with fail
  go_loopg [7, 8, 18] r.ps.length (fun kq v7 v8 v18 w' => ∃ (i : Nat) (p : Int) (acc : List ByteArray), v8 = .int .i64 p ∧ v18 = .int .i64 i ∧ Aside0 (i + kq = r.ps.length) ∧ Aside0 (acc ++ cutP a b p (r.ps.drop i) = cutP a b 0 r.ps) ∧ Aside0 (acc.length ≤ i) ∧ Aside0 (0 ≤ p ∧ p + tot (r.ps.drop i) ≤ 1000000) ∧ Aside0 (SR w' w.heap.size v7 acc) ∧ Aside0 (Below w.heap.size w w'))
  case atStart => exact ⟨0, 0, [], rfl, rfl, ⟨by omega⟩, ⟨by simp⟩, ⟨by simp⟩, ⟨by simp; omega⟩, ⟨⟨by simp, .inl ⟨rfl, rfl⟩⟩⟩, ⟨Below.refl _ _⟩⟩
  case round =>
    obtain ⟨i, p, acc, rfl, rfl, HK, HC, HL, HP, HO, HB⟩ := hrel
    by_cases hlt : i < r.ps.length
    · obtain ⟨bk, o, rfl, hx⟩ := HR.out.2 (by omega)
      have hx1 := hx i _ (List.getElem?_eq_getElem hlt)
      replace hx1 := (HB.out.cell (World.block_lt_of_cell? w _ hx1)).trans hx1
      have hC := HC.out
      have hP := HP.out
      rw [List.drop_eq_getElem_cons hlt] at hC hP
      rw [tot_cons] at hP
      clear hx
      generalize r.ps[i] = s at *
      simp only [cutP] at hC
      obtain ⟨p0, p1⟩ := hP
      obtain ⟨x, hxa⟩ : ∃ x : Int, (if a - p < 0 then 0 else a - p) = x := ⟨_, rfl⟩
      obtain ⟨y, hyb⟩ : ∃ y : Int, (if (s.size : Int) < b - p then (s.size : Int) else b - p) = y := ⟨_, rfl⟩
      rw [hxa, hyb] at hC
      have hx0 : 0 ≤ x := by rw [← hxa]; split <;> omega
      have hys : y ≤ s.size := by rw [← hyb]; split <;> omega
      have HO' := HO.out
      unfold SR at HO'
      have HH := Aside0.mk HO'
      clear HO' HO
      have hmx := HR.out.1
      by_cases hxy : x < y
      · rw [if_pos hxy] at hC
        have hxy' : x ≤ y := by omega
        have HC2 := Aside0.mk hC
        clear hC HC
        go_wp2_with (at_builtin; refine wpList_append_own _ rfl _ _ 63 rfl w.heap.size 9 i0 (.string ⟨#[]⟩) 1 16 Try.underlying63 hi hz0 hz1 hz2 rfl (by decide) _ _ _ rfl (HH.out.alloc _) ⟨wr.heap.size, 0, none⟩ 1 1 [.string (s.extract x.toNat y.toNat)] rfl rfl ?c1 ?c2 ?c3 ?c4 ?c5 ?_)
        case c1 =>
          intro j u hj
          match j, hj with
          | 0, hj =>
            simp only [List.getElem?_cons_zero, Option.some.injEq] at hj
            subst hj
            rw [show (⟨wr.heap.size, 0, none⟩ : Addr).add 0 = ⟨wr.heap.size, 0, none⟩ from rfl, Lib.cell_of_heap (alloc_at _ _)]
            rfl
        case c2 => intro u hu; simp only [List.mem_singleton] at hu; subst hu; rfl
        case c3 => unfold maxLen; have := HL.out; omega
        case c4 => have := HL.out; omega
        case c5 => have := HB.out.size; simp; omega
        intro v' w2 hown' hgrow _
        have HN := Aside0.mk (((HB.out.alloc HB.out.size _).grown hgrow (by have := HB.out.size; simp; omega) (fun k hk => (HH.out.lt k hk).1)))
        have HO2 := Aside0.mk hown'
        clear hown' hgrow
        cases gk with
        | zero => exact absurd hlt (by have := HK.out; omega)
        | succ kq' =>
        go_wp2_with fail
        go_roundg kq'
        case measure => omega
        case rel => exact ⟨i + 1, p + s.size, acc ++ [s.extract x.toNat y.toNat], rfl, by go_num, ⟨by have := HK.out; omega⟩, ⟨by rw [← HC2.out]; simp⟩, ⟨by have := HL.out; simp; omega⟩, ⟨by omega⟩, ⟨by unfold SR; simpa using HO2.out⟩, HN⟩
      · rw [if_neg hxy] at hC
        have HC2 := Aside0.mk hC
        clear hC HC
        have HO2 := HH
        cases gk with
        | zero => exact absurd hlt (by have := HK.out; omega)
        | succ kq' =>
        go_wp2_with fail
        go_roundg kq'
        case measure => omega
        case rel => exact ⟨i + 1, p + s.size, acc, rfl, by go_num, ⟨by have := HK.out; omega⟩, HC2, ⟨by have := HL.out; omega⟩, ⟨by omega⟩, HO2, HB⟩
    · have hC := HC.out
      rw [List.drop_of_length_le (by omega)] at hC
      simp only [cutP, List.append_nil] at hC
      have HO' := HO.out
      rw [hC] at HO'
      have HO2 := Aside0.mk HO'
      clear HO' hC HO HC
      go_wp2_with fail
      go_ret
      exact ⟨_, rfl, HO2.out, HB.out⟩
theorem check_n (n : Nat) (l : List Ed) (hn : n ≤ 20000) (hf : Fit l) : Ev (fun k => rope_check.f k (n : Int) l) (chk n l) := by
  have hl : l.length ≤ 9223372036854775807 := by have := hf.1; omega
  have hns : newSum l ≤ 1000000 := hf.2
  unfold rope_check.f chk
  rw [if_neg (by omega)]
  refine Ev.bind (spans_ev l n hl) ?_
  by_cases h2 : (l.length : Int) > 100
  · simp only [if_pos h2]
    exact Ev.neg (by decide) (Ev.now _)
  simp only [if_neg h2]
  by_cases h3 : sp n 0 l = true
  · simp only [if_pos h3]
    have h4 := span_le h3 (by omega)
    exact Ev.pos (by simp) (check_l0 l n (by omega) hl hns l 0 n 0 rfl h3 (by omega) (by omega) (by omega) (by omega))
  · simp only [if_neg h3]
    exact Ev.neg (by decide) (Ev.now _)
set_option maxHeartbeats 4000000 in
set_option maxRecDepth 100000 in
theorem Edit_err (v : Value) (r : Rp) (A1 : Option Addr) (c1 : Nat) (l : List Ed) (w : World) (h : IsRp w v r) (hs : tot r.ps ≤ 20000) (hf : Fit l) (hr1 : Kd.C k47 w A1 l.length l) (hc1 : l.length ≤ c1) (he : ¬ chk (tot r.ps) l = 0) :
    Calls Try.prog 32 #[v, .slice A1 l.length c1] w fun e w' => e = .returned (.tuple #[.pointer none, .int .i64 (chk (tot r.ps) l)]) ∧ Below w.heap.size w w' := by
  obtain ⟨g, u, rfl, hl⟩ := h.open
  obtain ⟨A, c, h0, h1, h2, h3, hc, hr⟩ := hl.cells
  obtain ⟨K, hK⟩ := check_n (tot r.ps) l hs hf
  have hk := hK K (Nat.le_refl _)
  have hne : (chk (tot r.ps) l != 0) = true := bne_iff_ne.mpr he
  clear hr h hl h0 h2 hK he
  generalize chk (tot r.ps) l = z at *
  go_enter Try.func32, Try.ntmps32
  go_wp2_with (go_at_call 49; refine (none_made g _ h3).mono ?_; rintro e w1 ⟨rfl, rfl⟩)
  refine (rope_check.calls K _ _ _ l z _ hr1 hc1 hk).mono ?_
  rintro e w2 ⟨rfl, hb⟩
  go_wp2_with fail
  go_ret2
  exact ⟨rfl, hb⟩
end Go.Proofs.Ytfllpoonfhiipaa.Rope

set_option linter.unusedVariables false
set_option linter.unusedSimpArgs false
namespace Go.Proofs.Ytfllpoonfhiipaa.Rope
open Go.RowKit Go.Proofs.Ytfllpoonfhiipaa Go.Proofs.YtfllpoonfhiipaaW.PrintWords Go.Proofs.YtfllpoonfhiipaaW.PrintLast Go.Proofs.YtfllpoonfhiipaaW.PrintMore
def RSF (P : Nat → Prop) (W : World) (A : Option Addr) (ps : List ByteArray) : Prop :=
  ps.length ≤ 140737488355328 ∧ (0 < ps.length → ∃ bk o, A = some ⟨bk, o, none⟩ ∧ P bk ∧ ∀ (j : Nat) x, ps[j]? = some x → W.cell? ⟨bk, o + j, none⟩ = some (.string x))
def LieF (P : Nat → Prop) (W : World) (g : Nat) (ps : List ByteArray) (u : Value) : Prop :=
  P g ∧ ∃ A c, W.heap[g]? = some (.cells #[.slice A ps.length c, .int .i64 (tot ps : Nat), u, .bool true] 66 (0, 0)) ∧ ps.length ≤ c ∧ RSF P W A ps
/-- A rope that lies in blocks P. -/
def IsRpF (P : Nat → Prop) (W : World) : Value → Rp → Prop
  | v, .base ps => ∃ g, v = .pointer (some ⟨g, 0, none⟩) ∧ LieF P W g ps (.pointer none)
  | v, .step ps o => ∃ g u, v = .pointer (some ⟨g, 0, none⟩) ∧ LieF P W g ps u ∧ IsRpF P W u o
section
variable {P P' : Nat → Prop} {W W' : World} {A : Option Addr} {ps : List ByteArray} {g : Nat} {u : Value}
theorem RSF.rs (h : RSF P W A ps) : RS W A ps := ⟨h.1, fun hp => by
  obtain ⟨bk, o, e, _, hc⟩ := h.2 hp
  exact ⟨bk, o, e, hc⟩⟩
theorem RS.f (h : RS W A ps) (hp : ∀ bk o, A = some ⟨bk, o, none⟩ → P bk) : RSF P W A ps := ⟨h.1, fun h0 => by
  obtain ⟨bk, o, e, hc⟩ := h.2 h0
  exact ⟨bk, o, e, hp bk o e, hc⟩⟩
theorem LieF.lies (h : LieF P W g ps u) : Lies W g ps u := by
  obtain ⟨_, A, c, h1, h2, h3⟩ := h
  exact ⟨A, c, h1, h2, h3.rs⟩
theorem IsRpF.is : ∀ {v : Value} {r : Rp}, IsRpF P W v r → IsRp W v r
  | v, .base ps, h => by
    obtain ⟨g, e, h⟩ := h
    exact ⟨g, e, h.lies⟩
  | v, .step ps o, h => by
    obtain ⟨g, u, e, h, h'⟩ := h
    exact ⟨g, u, e, h.lies, h'.is⟩
theorem RSF.move (h : RSF P W A ps) (hm : ∀ k, P k → k < W.heap.size → W'.heap[k]? = W.heap[k]? ∧ P' k) : RSF P' W' A ps := ⟨h.1, fun h0 => by
  obtain ⟨bk, o, e, hp, hc⟩ := h.2 h0
  have hlt : bk < W.heap.size := World.block_lt_of_cell? W ⟨bk, o + 0, none⟩ (hc 0 _ (List.getElem?_eq_getElem h0))
  exact ⟨bk, o, e, (hm bk hp hlt).2, fun j x hx => (World.cell?_of_block (hm bk hp hlt).1).trans (hc j x hx)⟩⟩
theorem LieF.move (h : LieF P W g ps u) (hm : ∀ k, P k → k < W.heap.size → W'.heap[k]? = W.heap[k]? ∧ P' k) : LieF P' W' g ps u := by
  obtain ⟨hp, A, c, h1, h2, h3⟩ := h
  have hlt := blk_lt h1
  exact ⟨(hm g hp hlt).2, A, c, (hm g hp hlt).1.trans h1, h2, h3.move hm⟩
theorem IsRpF.move (hm : ∀ k, P k → k < W.heap.size → W'.heap[k]? = W.heap[k]? ∧ P' k) : ∀ {v : Value} {r : Rp}, IsRpF P W v r → IsRpF P' W' v r
  | v, .base ps, h => by
    obtain ⟨g, e, h⟩ := h
    exact ⟨g, e, h.move hm⟩
  | v, .step ps o, h => by
    obtain ⟨g, u, e, h, h'⟩ := h
    exact ⟨g, u, e, h.move hm, h'.move hm⟩
theorem IsRpF.below {v : Value} {r : Rp} (h : IsRpF P W v r) (hb : Below W.heap.size W W') : IsRpF P W' v r := h.move (fun k hp hk => ⟨hb.block k hk, hp⟩)
/-- Another row has been written: it lies in no block P. -/
theorem IsRpF.grown {v : Value} {r : Rp} (h : IsRpF P W v r) {row : Option Nat} (hg : W.grownBy W' row) (hp : ∀ k, P k → some k ≠ row) : IsRpF P W' v r := h.move (fun k hk hlt => ⟨hg.block k hlt (hp k hk), hk⟩)
end
set_option maxHeartbeats 1000000 in
set_option maxRecDepth 100000 in
theorem New_okF (s : ByteArray) (w : World) (h : s.size ≤ 20000) :
    Calls Try.prog 31 #[.string s] w fun e w' => ∃ v, e = .returned (.tuple #[v, .int .i64 0]) ∧ IsRpF (fun k => w.heap.size ≤ k) w' v (.base (one s)) ∧ Below w.heap.size w w' := by
  have hB : Below w.heap.size w (w.alloc (.cells #[.slice none 0 0, .int .i64 (s.size : Int), .pointer none, .bool true] 66)) := (Below.refl _ _).alloc (Nat.le_refl _) _
  by_cases hs : s.size = 0
  · have h0 := Ut.empty_of hs
    have HS := Aside0.mk hs
    have h2 : ¬ (20000 < (s.size : Int)) := by omega
    clear hs
    go_enter Try.func31, Try.ntmps31
    go_wp2
    go_ret2
    refine ⟨_, rfl, ⟨w.heap.size, rfl, Nat.le_refl _, none, 0, ?_, ?_, ?_⟩, hB⟩
    · rw [alloc_at]; simp [one, HS.out, tot]
    · simp [one, HS.out]
    · exact ⟨by simp [one, HS.out], by simp [one, HS.out]⟩
  · have h0 := Ut.nonempty_of hs
    have HS := Aside0.mk hs
    clear hs
    go_enter Try.func31, Try.ntmps31
    go_wp2
    go_ret2
    have e1 : one s = [s] := by simp [one, HS.out]
    rw [e1]
    refine ⟨_, rfl, ⟨w.heap.size, rfl, Nat.le_refl _, some ⟨w.heap.size + 1, 0, none⟩, 1, ?_, ?_, ?_⟩, ?_⟩
    · rw [alloc_two, alloc_at]; simp [tot]
    · simp
    · refine ⟨by simp, fun _ => ⟨_, 0, rfl, Nat.le_succ _, fun j x hx => ?_⟩⟩
      match j, hx with
      | 0, hx =>
        simp only [List.getElem?_cons_zero, Option.some.injEq] at hx
        subst hx
        rw [Lib.cell_of_heap (alloc_at' _ _ _ (by simp [World.size_alloc]))]
        rfl
    · exact ((Below.refl _ _).alloc (Nat.le_refl _) _).alloc (by simp) _
end Go.Proofs.Ytfllpoonfhiipaa.Rope

set_option linter.unusedVariables false
namespace Go.Proofs.Ytfllpoonfhiipaa.Rope
open Go.RowKit Go.Proofs.Ytfllpoonfhiipaa Go.Proofs.Ytfllpoonfhiipaa.P Go.Proofs.Ytfllpoonfhiipaa.Bld Go.Proofs.YtfllpoonfhiipaaW.PrintWords Go.Proofs.YtfllpoonfhiipaaW.PrintLast Go.Proofs.YtfllpoonfhiipaaW.PrintMore
attribute [local go_sem] max2_int min2_int max_two min_two max_three min_three max_four min_four
theorem RS.far {w : World} {A : Option Addr} {xs : List ByteArray} {b : Nat} (h : RS w A xs) (hd : ∀ bk o, A = some ⟨bk, o, none⟩ → bk ≠ b) (i : Nat) (u : Value) : RS (w.setCell ⟨b, i, none⟩ u) A xs := by
  refine ⟨h.1, fun hp => ?_⟩
  obtain ⟨bk, o, e, hc⟩ := h.2 hp
  exact ⟨bk, o, e, fun j x hx => (World.cell?_of_block (Below.heap_setCell w ⟨b, i, none⟩ u bk (hd bk o e))).trans (hc j x hx)⟩
theorem tot_take (xs : List ByteArray) (j : Nat) (h : j < xs.length) : tot (xs.take (j + 1)) = tot (xs.take j) + xs[j].size := by
  rw [List.take_succ_eq_append_getElem h]
  simp only [tot, List.map_append, List.sum_append, List.map_cons, List.map_nil, List.sum_cons, List.sum_nil, Nat.add_zero]
theorem tot_take_le (xs : List ByteArray) (j : Nat) : tot (xs.take j) ≤ tot xs := by
  conv => rhs; rw [← List.take_append_drop j xs]
  simp only [tot, List.map_append, List.sum_append]
  omega
/-- The pieces behind edits. -/
def editP (ps : List ByteArray) (n : Int) : Int → List Ed → List ByteArray
  | p, [] => cutP p n 0 ps
  | p, e :: r => cutP p e.f0 0 ps ++ (if e.f2.size = 0 then [] else [e.f2]) ++ editP ps n e.f1 r
/-- A row of strings, not in block b. -/
def SK (w : World) (B b : Nat) (v : Value) (xs : List ByteArray) : Prop := Kd.R Kd.string 9 w B (fun k => k ≠ b) v xs
theorem SR.kd {w : World} {B : Nat} {v : Value} {xs : List ByteArray} (h : SR w B v xs) : Kd.R Kd.string 9 w B (fun _ => True) v xs := Kd.R_of_own h (fun _ _ => trivial)
theorem RS.of_SK {w : World} {B b : Nat} {v : Value} {xs : List ByteArray} (hk : SK w B b v xs) (hl : xs.length ≤ 140737488355328) : ∃ A c, v = .slice A xs.length c ∧ xs.length ≤ c ∧ RS w A xs ∧ ∀ bk o, A = some ⟨bk, o, none⟩ → bk ≠ b := by
  have h := Kd.own_of_R hk
  obtain ⟨A, c, hv, h2, _⟩ := Kd.R_reads hk
  by_cases hn : 0 < xs.length
  · obtain ⟨g, cap, hv', h1, _⟩ := World.ownsRow.form h hn
    have hg : v.ownBlock = some g := by
      rw [hv']; rfl
    subst hv'
    injection hv with e1 _ e2
    subst e1 e2
    refine ⟨_, _, rfl, h2, ⟨hl, fun _ => ⟨g, 0, rfl, fun j x hx => ?_⟩⟩, fun bk o e => ?_⟩
    · rw [World.ownsRow.cellAt h (0 + j) (by have := List.getElem?_eq_some_iff.1 hx; obtain ⟨q, _⟩ := this; omega)]
      simp [encs, hx]
    · injection e with e
      injection e with e
      subst e
      exact hk.1 _ hg
  · exact ⟨A, c, hv, h2, ⟨hl, fun h => absurd h hn⟩, fun bk o e => by
      subst e
      have h0 : v.ownBlock = some bk ∨ v.ownBlock = none := by rw [hv]; cases o <;> simp [Value.ownBlock]
      rcases h0 with h0 | h0
      · exact hk.1 _ h0
      · have := h.2; rcases this with ⟨e, _⟩ | ⟨g, cap, cur, e, _⟩
        · rw [e] at hv; cases hv
        · rw [e] at hv; injection hv with e1; injection e1 with e1; injection e1 with e1 e2; subst e1; exact hk.1 _ (by rw [e]; rfl)⟩
theorem SK.base {w : World} {B b n c : Nat} {A : Option Addr} {xs : List ByteArray} (hk : SK w B b (.slice A n c) xs) : ∀ bk o, A = some ⟨bk, o, none⟩ → B ≤ bk := by
  have h := Kd.own_of_R hk
  intro bk o e
  subst e
  rcases h.2 with ⟨e, _⟩ | ⟨g, cap, cur, e, hg, _⟩
  · cases e
  · injection e with e1
    injection e1 with e1
    injection e1 with e1
    subst e1
    exact hg
set_option maxHeartbeats 8000000 in
set_option maxRecDepth 100000 in
theorem Edit_okF (v : Value) (r : Rp) (A1 : Option Addr) (c1 : Nat) (l : List Ed) (w : World) (h : IsRp w v r) (hs : tot r.ps ≤ 20000) (hn : r.ps.length ≤ 1000000) (hf : Fit l) (hr1 : Kd.C k47 w A1 l.length l) (hc1 : l.length ≤ c1) (he : chk (tot r.ps) l = 0) (ht : tot (editP r.ps (tot r.ps) 0 l) ≤ 1000000) :
    Calls Try.prog 32 #[v, .slice A1 l.length c1] w fun e w' => ∃ u, e = .returned (.tuple #[.pointer (some ⟨u, 0, none⟩), .int .i64 0]) ∧ LieF (fun k => w.heap.size ≤ k) w' u (editP r.ps (tot r.ps) 0 l) v ∧ Below w.heap.size w w' := by
  have HI := Aside0.mk h
  obtain ⟨g, u, rfl, hl⟩ := h.open
  obtain ⟨A, c, h0, h1, h2, h3, hc, hr⟩ := hl.cells
  obtain ⟨K, hK⟩ := check_n (tot r.ps) l hs hf
  have hk := hK K (Nat.le_refl _)
  have hu := Try.underlying47
  obtain ⟨q1, q2, q3, q4⟩ := chk_ok he
  have HQ := Aside0.mk (And.intro q2 q3)
  have HT := Aside0.mk ht
  clear ht
  have hl100 := Aside0.mk q2
  rw [he] at hk
  clear hr hl h0 h2 hK he q1 q2 q3 q4 h
  go_enter Try.func32, Try.ntmps32
  go_wp2_with (go_at_call 49; refine (none_made g _ h3).mono ?_; rintro e wx ⟨rfl, rfl⟩)
  refine (rope_check.calls K _ _ _ l 0 _ hr1 hc1 hk).mono ?_
  rintro e w2 ⟨rfl, hb⟩
  have HB2 := Aside0.mk hb
  have HR := Aside0.mk hr1
  clear hb hr1 hk
  go_wp2_with fail
  have hbz : Below w2.heap.size w2 (w2.alloc (.cells #[.slice none 0 0, .int .i64 0, .pointer (some ⟨g, 0, none⟩), .bool true] 66)) := (Below.refl _ _).alloc (Nat.le_refl _) _
  have HB3 := Aside0.mk (Kx.below_step HB2.out hbz)
  clear hbz
  go_loopg [8, 29] l.length (fun kq v8 v29 w' => ∃ (i : Nat) (p : Int) (acc : List ByteArray) (vp : Value), v8 = .int .i64 p ∧ v29 = .int .i64 i ∧ Aside0 (i + kq = l.length) ∧ Aside0 (acc ++ editP r.ps (tot r.ps) p (l.drop i) = editP r.ps (tot r.ps) 0 l) ∧ Aside0 (acc.length ≤ i * 1000001) ∧ Aside0 (0 ≤ p ∧ p ≤ tot r.ps ∧ sp (tot r.ps) p (l.drop i) = true) ∧ Aside0 (SK w' wx.heap.size w2.heap.size vp acc) ∧ Aside0 (w'.heap[w2.heap.size]? = some (.cells #[vp, .int .i64 0, .pointer (some ⟨g, 0, none⟩), .bool true] 66 (0, 0))) ∧ Aside0 (Below wx.heap.size wx w'))
  case atStart => exact ⟨0, 0, [], .slice none 0 0, rfl, rfl, ⟨by omega⟩, ⟨by simp⟩, ⟨by simp⟩, ⟨by omega, by omega, by simpa using HQ.out.2⟩, ⟨Kd.R_nil _ _ _ _ _⟩, ⟨alloc_at _ _⟩, HB3⟩
  case round =>
    obtain ⟨i, p, acc, vp, rfl, rfl, HK, HC, HL, HP, HO, HG, HB⟩ := hrel
    have HP2 : Aside0 (r.ps.length ≤ 1000000 ∧ l.length ≤ 100) := ⟨hn, by have := hl100.out; omega⟩
    have hmax : l.length ≤ 9223372036854775807 := HR.out.2.1
    by_cases hlt : i < l.length
    · obtain ⟨ad, e, hx0, hx1, hx2⟩ := at_T47 HR.out (i : Int) (by omega) (by omega)
      have hrd : rd_T47 l (i : Int) = l[i] := by simp [rd_T47, hlt]
      rw [hrd, Int.toNat_natCast] at hx0 hx1 hx2
      cases e
      replace hx0 := (HB.out.cell (World.block_lt_of_cell? wx _ hx0)).trans hx0
      replace hx1 := (HB.out.cell (World.block_lt_of_cell? wx _ hx1)).trans hx1
      replace hx2 := (HB.out.cell (World.block_lt_of_cell? wx _ hx2)).trans hx2
      have hC := HC.out
      obtain ⟨p0, p1, p2⟩ := HP.out
      rw [List.drop_eq_getElem_cons hlt] at hC p2
      clear hrd
      generalize l[i] = x at *
      obtain ⟨s1, s2, s3, s4⟩ := sp_cons p2
      simp only [editP] at hC
      have HC2 := Aside0.mk hC
      have HS := Aside0.mk s4
      clear hC HC p2 s4
      go_wp2_with fail
      have hgx : w2.heap.size ≠ wr.heap.size := by have := blk_lt HG.out; omega
      have hba : Below wr.heap.size wr (wr.alloc (.cells #[.int .i64 x.f0, .int .i64 x.f1, .string x.f2] 47)) := (Below.refl _ _).alloc (Nat.le_refl _) _
      have HBa := Aside0.mk (Kx.below_step HB.out hba)
      have HOa : Aside0 (SK (wr.alloc (.cells #[.int .i64 x.f0, .int .i64 x.f1, .string x.f2] 47)) wx.heap.size w2.heap.size vp acc) := ⟨Kd.R_alloc HO.out _⟩
      have HGa := Aside0.mk ((hba.block _ (blk_lt HG.out)).trans HG.out)
      have HXa := Aside0.mk (alloc_at wr (.cells #[.int .i64 x.f0, .int .i64 x.f1, .string x.f2] 47))
      have HOw := HO
      clear hba HB HO HG hx0 hx1 hx2
      generalize wr.alloc (.cells #[.int .i64 x.f0, .int .i64 x.f1, .string x.f2] 47) = W0 at *
      have c0 : W0.cell? ⟨w2.heap.size, 0, none⟩ = some vp := by rw [Lib.cell_of_heap HGa.out]; rfl
      have c1x : W0.cell? ⟨wr.heap.size, 0, none⟩ = some (.int .i64 x.f0) := by rw [Lib.cell_of_heap HXa.out]; rfl
      have HI0 := Aside0.mk (IsRp.below (below_drew1 HBa.out) HI.out)
      have KS : ∀ w3, Below W0.heap.size W0.drew w3 → w3.cell? ⟨w2.heap.size, 0, none⟩ = some vp ∧ w3.cell? ⟨wr.heap.size, 0, none⟩ = some (.int .i64 x.f0) := fun w3 hb => ⟨(hb.cell (p := ⟨w2.heap.size, 0, none⟩) (blk_lt HGa.out)).trans c0, (hb.cell (p := ⟨wr.heap.size, 0, none⟩) (blk_lt HXa.out)).trans c1x⟩
      have hfr : ∀ w3, Below W0.heap.size W0.drew w3 → ∀ k, w3.heap.size ≤ k → k ≠ w2.heap.size := fun w3 hb k hk => by have := hb.size; have := blk_lt HGa.out; have : W0.drew.heap.size = W0.heap.size := rfl; omega
      have hOd : ∀ w3, Below W0.heap.size W0.drew w3 → Kd.R Kd.string 9 w3 wx.heap.size (fun k => k ≠ w2.heap.size) vp acc := fun w3 hb => Kd.R_below (w := W0.drew) HOa.out hb
      have hBd : ∀ w3, Below W0.heap.size W0.drew w3 → Below wx.heap.size wx w3 := fun w3 hb => Kx.below_step (below_drew1 HBa.out) hb
      have hbw : ∀ w3, Below W0.heap.size W0.drew w3 → wx.heap.size ≤ w3.heap.size := fun w3 hb => by have := hb.size; have := HBa.out.size; have : W0.drew.heap.size = W0.heap.size := rfl; omega
      have hlw : (acc.length + (cutP p x.f0 0 r.ps).length) * 16 ≤ 140737488355328 := by have := cutP_length p x.f0 r.ps 0; have := HL.out; have := HP2.out; omega
      have hno : vp.ownBlock ≠ some w2.heap.size := fun h => HOa.out.1 _ h rfl
      have hst4 : ∀ w3 w4, Below W0.heap.size W0.drew w3 → w3.grownBy w4 vp.ownBlock → w4.heap[w2.heap.size]? = some (.cells #[vp, .int .i64 0, .pointer (some ⟨g, 0, none⟩), .bool true] 66 (0, 0)) := fun w3 w4 hb hg => by
        have h1 := (hb.block _ (blk_lt HGa.out)).trans HGa.out
        exact (hg.block _ (blk_lt h1) (fun h => hno h.symm)).trans h1
      have hnx : vp.ownBlock ≠ some wr.heap.size := fun h => by have := Kd.R_lt HOw.out _ h; omega
      have hxt4 : ∀ w3 w4, Below W0.heap.size W0.drew w3 → w3.grownBy w4 vp.ownBlock → w4.heap[wr.heap.size]? = some (.cells #[.int .i64 x.f0, .int .i64 x.f1, .string x.f2] 47 (0, 0)) := fun w3 w4 hb hg => by
        have h1 := (hb.block _ (blk_lt HXa.out)).trans HXa.out
        exact (hg.block _ (blk_lt h1) (fun h => hnx h.symm)).trans h1
      go_region_law (first | (go_simp; go_at_call 50; refine (cut_ok _ r p x.f0 _ HI0.out (by omega) p0 (by omega) (by omega) (by omega) hn).mono ?_; rintro e w3 ⟨u3, rfl, hu3, hb3⟩; obtain ⟨A3, c3, rfl, hc3, hC3⟩ := Kd.R_reads hu3.kd; obtain ⟨hk1, hk2⟩ := KS w3 hb3) | (refine Kd.R_append_rows_step Kd.string wx.heap.size (w0 := wx) (by rfl) (.tmp 37) (.tmp 42) 63 9 (.string ⟨#[]⟩) 16 rfl Try.underlying63 infoString rfl (by decide) (by omega) vp acc (cutP p x.f0 0 r.ps) A3 _ c3 (fun k => k ≠ w2.heap.size) (fun _ => False) rfl rfl (hOd w3 hb3) hC3 (fun _ _ h => h) (fun _ hk => hk.elim) (hfr w3 hb3) (hBd w3 hb3) (hbw w3 hb3) (hlw) ?_; intro v1 w4 hr4 hb4 hg4 hat4; have hst := hst4 w3 w4 hb3 hg4; have hxt := hxt4 w3 w4 hb3 hg4; obtain ⟨A4, c4, hv4, hc4, hC4⟩ := Kd.R_reads hr4; obtain ⟨n4, hn4⟩ : ∃ n, Aside0 (n = (acc ++ cutP p x.f0 0 r.ps).length) := ⟨_, ⟨rfl⟩⟩; rw [← hn4.out] at hv4; subst hv4; have hct : w4.cell? ⟨w2.heap.size, 0, none⟩ = some vp := by { rw [Lib.cell_of_heap hst]; rfl }; have hft := Lib.frozen_of_heap hst 0))
      all_goals
        have HG5 := Aside0.mk (Lib.heap_setCell_same (i := 0) hst (.slice A4 n4 c4))
        have HX5 := Aside0.mk ((Below.heap_setCell w4 ⟨w2.heap.size, 0, none⟩ (.slice A4 n4 c4) wr.heap.size (fun h => hgx h.symm)).trans hxt)
        have HN5 : Aside0 ((Value.slice A4 n4 c4).ownBlock ≠ some wr.heap.size) := ⟨by
          rcases hat4 with h | ⟨b, h, hle⟩
          · rw [h]; exact hnx
          · rw [h]
            intro e
            injection e with e
            have := blk_lt ((hb3.block _ (blk_lt HXa.out)).trans HXa.out)
            omega⟩
        have HO5 := Aside0.mk (Kd.R_far (p := ⟨w2.heap.size, 0, none⟩) hr4 (fun k hk => hk) (.slice A4 n4 c4))
        have HB5 := Aside0.mk (hb4.setCell (p := ⟨w2.heap.size, 0, none⟩) (HB2.out.size) (.slice A4 n4 c4))
        have HL5 : Aside0 ((acc ++ cutP p x.f0 0 r.ps).length ≤ acc.length + 1000000) := ⟨by have := cutP_length p x.f0 r.ps 0; have := HP2.out; simp; omega⟩
        rw [← List.append_assoc, ← List.append_assoc] at HC2
        clear hst hxt hct hft hr4 hb4 hg4 hat4 hC4 hc4 hn4 hk1 hk2 hb3 hu3 hC3 hc3 hst4 hxt4 hfr hbw hOd hBd hlw hno hnx KS HI0 c0 c1x HOa HBa HGa HXa HOw
        clear HP
        generalize w4.setCell ⟨w2.heap.size, 0, none⟩ (.slice A4 n4 c4) = w5 at *
        generalize hv5 : Value.slice A4 n4 c4 = v5 at *
        generalize acc ++ cutP p x.f0 0 r.ps = acc5 at *
        have d0 : w5.cell? ⟨w2.heap.size, 0, none⟩ = some v5 := by rw [Lib.cell_of_heap HG5.out]; rfl
        have d1 : w5.cell? ⟨wr.heap.size, 1, none⟩ = some (.int .i64 x.f1) := by rw [Lib.cell_of_heap HX5.out]; rfl
        have d2 : w5.cell? ⟨wr.heap.size, 2, none⟩ = some (.string x.f2) := by rw [Lib.cell_of_heap HX5.out]; rfl
        cases gk with
        | zero => exact absurd hlt (by have := HK.out; omega)
        | succ kq' =>
        by_cases hz : x.f2.size = 0
        · have h0 := Ut.empty_of hz
          rw [if_pos hz] at HC2
          have HZ := Aside0.mk hz
          clear hz
          go_wp2_with fail
          go_roundg kq'
          case measure => omega
          case rel => exact ⟨i + 1, x.f1, acc5, v5, rfl, by go_num, ⟨by have := HK.out; omega⟩, ⟨by simpa using HC2.out⟩, ⟨by have := HL5.out; have := HL.out; omega⟩, ⟨by omega, by omega, HS.out⟩, HO5, HG5, HB5⟩
        · have h0 := Ut.nonempty_of hz
          rw [if_neg hz] at HC2
          have HZ := Aside0.mk hz
          clear hz
          have hg5 := blk_lt HG5.out
          have hno5 : v5.ownBlock ≠ some w2.heap.size := fun h => HO5.out.1 _ h rfl
          have hnx5 := HN5.out
          go_wp2_with fail
          go_region_law (refine Kd.R_append_step Kd.string wx.heap.size (w0 := wx) (W := w5.drew) (by rfl) (.tmp 53) (.tmp 56) 63 9 (.string ⟨#[]⟩) 16 rfl Try.underlying63 infoString rfl (by decide) (by omega) v5 acc5 x.f2 [.string x.f2] (fun k => k ≠ w2.heap.size) (fun _ => False) rfl rfl rfl (fun _ hk => hk.elim) (fun k (hk : w5.heap.size ≤ k) => by omega) (Kd.R_drew HO5.out) (below_drew1 HB5.out) HB5.out.size (by have := HL5.out; have := HL.out; have := HP2.out; omega) ?_; intro v6 w6 hr6 hb6 hg6 hat6; have hst := (hg6.block w2.heap.size hg5 (fun h => hno5 h.symm)).trans HG5.out; obtain ⟨A6, c6, hv6, hc6, hC6⟩ := Kd.R_reads hr6; obtain ⟨n6, hn6⟩ : ∃ n, Aside0 (n = (acc5 ++ [x.f2]).length) := ⟨_, ⟨rfl⟩⟩; rw [← hn6.out] at hv6; subst hv6; have hct : w6.cell? ⟨w2.heap.size, 0, none⟩ = some v5 := by { rw [Lib.cell_of_heap hst]; rfl }; have hft := Lib.frozen_of_heap hst 0; have hxt := (hg6.block wr.heap.size (blk_lt HX5.out) (fun h => hnx5 h.symm)).trans HX5.out)
          all_goals
            have HG6 := Aside0.mk (Lib.heap_setCell_same (i := 0) hst (.slice A6 n6 c6))
            have HX6 := Aside0.mk ((Below.heap_setCell w6 ⟨w2.heap.size, 0, none⟩ (.slice A6 n6 c6) wr.heap.size (fun h => hgx h.symm)).trans hxt)
            have HO6 := Aside0.mk (Kd.R_far (p := ⟨w2.heap.size, 0, none⟩) hr6 (fun k hk => hk) (.slice A6 n6 c6))
            have HB6 := Aside0.mk (hb6.setCell (p := ⟨w2.heap.size, 0, none⟩) (HB2.out.size) (.slice A6 n6 c6))
            clear hst hxt hct hft hr6 hb6 hg6 hat6 hC6 hc6 hn6 hno5 hnx5 HN5 HX5 HG5 HO5 HB5 hg5 d0 d1 d2
            generalize w6.setCell ⟨w2.heap.size, 0, none⟩ (.slice A6 n6 c6) = w7 at *
            generalize hv7 : Value.slice A6 n6 c6 = v7 at *
            have d1 : w7.cell? ⟨wr.heap.size, 1, none⟩ = some (.int .i64 x.f1) := by rw [Lib.cell_of_heap HX6.out]; rfl
            go_wp2_with fail
            go_roundg kq'
            case measure => omega
            case rel => exact ⟨i + 1, x.f1, acc5 ++ [x.f2], v7, rfl, by go_num, ⟨by have := HK.out; omega⟩, HC2, ⟨by have := HL5.out; have := HL.out; simp; omega⟩, ⟨by omega, by omega, HS.out⟩, HO6, HG6, HB6⟩
    · have hil : i = l.length := by have := HK.out; omega
      have hC := HC.out
      rw [List.drop_of_length_le (by omega)] at hC
      simp only [editP] at hC
      obtain ⟨p0, p1, p2⟩ := HP.out
      have HC2 := Aside0.mk hC
      clear hC HC p2 HP
      have hgB : g < wx.heap.size := World.block_lt_of_cell? wx ⟨g, 1, none⟩ h1
      have hg1 : wr.cell? ⟨g, 1, none⟩ = some (.int .i64 (tot r.ps : Nat)) := (HB.out.cell (p := ⟨g, 1, none⟩) hgB).trans h1
      have c0 : wr.cell? ⟨w2.heap.size, 0, none⟩ = some vp := by rw [Lib.cell_of_heap HG.out]; rfl
      have HI0 := Aside0.mk (IsRp.below (below_drew1 HB.out) HI.out)
      clear h1
      have hlt2 := blk_lt HG.out
      have hno : vp.ownBlock ≠ some w2.heap.size := fun h => HO.out.1 _ h rfl
      have KS : ∀ w3, Below wr.heap.size wr.drew w3 → w3.cell? ⟨w2.heap.size, 0, none⟩ = some vp ∧ w3.cell? ⟨g, 1, none⟩ = some (.int .i64 (tot r.ps : Nat)) := fun w3 hb => ⟨(hb.cell (p := ⟨w2.heap.size, 0, none⟩) hlt2).trans c0, (hb.cell (p := ⟨g, 1, none⟩) (by have := HB.out.size; show g < wr.heap.size; omega)).trans hg1⟩
      have hfr : ∀ w3, Below wr.heap.size wr.drew w3 → ∀ k, w3.heap.size ≤ k → k ≠ w2.heap.size := fun w3 hb k hk => by have := hb.size; have : wr.drew.heap.size = wr.heap.size := rfl; omega
      have hbw : ∀ w3, Below wr.heap.size wr.drew w3 → wx.heap.size ≤ w3.heap.size := fun w3 hb => by have := hb.size; have := HB.out.size; have : wr.drew.heap.size = wr.heap.size := rfl; omega
      have hlw : (acc.length + (cutP p (tot r.ps : Nat) 0 r.ps).length) * 16 ≤ 140737488355328 := by have := cutP_length p (tot r.ps : Nat) r.ps 0; have := HL.out; have := HP2.out; omega
      have hOd : ∀ w3, Below wr.heap.size wr.drew w3 → Kd.R Kd.string 9 w3 wx.heap.size (fun k => k ≠ w2.heap.size) vp acc := fun w3 hb => Kd.R_below (w := wr.drew) HO.out hb
      have hBd : ∀ w3, Below wr.heap.size wr.drew w3 → Below wx.heap.size wx w3 := fun w3 hb => Kx.below_step (below_drew1 HB.out) hb
      have hst4 : ∀ w3 w4, Below wr.heap.size wr.drew w3 → w3.grownBy w4 vp.ownBlock → w4.heap[w2.heap.size]? = some (.cells #[vp, .int .i64 0, .pointer (some ⟨g, 0, none⟩), .bool true] 66 (0, 0)) := fun w3 w4 hb hg => by
        have h1 := (hb.block _ (blk_lt HG.out)).trans HG.out
        exact (hg.block _ (blk_lt h1) (fun h => hno h.symm)).trans h1
      go_wp2_with fail
      go_region_law (first | (refine Kd.R_append_rows_step Kd.string wx.heap.size (w0 := wx) (by rfl) (.tmp 67) (.tmp 74) 63 9 (.string ⟨#[]⟩) 16 rfl Try.underlying63 infoString rfl (by decide) (by omega) vp acc (cutP p (tot r.ps : Nat) 0 r.ps) A3 _ c3 (fun k => k ≠ w2.heap.size) (fun _ => False) rfl rfl (hOd w3 hb3) hC3 (fun _ _ h => h) (fun _ hk => hk.elim) (hfr w3 hb3) (hBd w3 hb3) (hbw w3 hb3) hlw ?_; intro v1 w4 hr4 hb4 hg4 hat4; have hst := hst4 w3 w4 hb3 hg4; obtain ⟨A4, c4, hv4, hc4, hC4, hD4⟩ := RS.of_SK hr4 (by simp; omega); obtain ⟨n4, hn4⟩ : ∃ n, Aside0 (n = (acc ++ cutP p (tot r.ps : Nat) 0 r.ps).length) := ⟨_, ⟨rfl⟩⟩; rw [← hn4.out] at hv4; subst hv4; have hct : w4.cell? ⟨w2.heap.size, 0, none⟩ = some vp := by { rw [Lib.cell_of_heap hst]; rfl }; have hft := Lib.frozen_of_heap hst 0) | (go_simp; go_at_call 50; refine (cut_ok _ r p (tot r.ps : Nat) _ HI0.out (by omega) p0 (by omega) (by omega) (by omega) hn).mono ?_; rintro e w3 ⟨u3, rfl, hu3, hb3⟩; obtain ⟨A3, c3, rfl, hc3, hC3⟩ := Kd.R_reads hu3.kd; obtain ⟨hk1, hk2⟩ := KS w3 hb3))
      all_goals
        rw [HC2.out] at hn4 hc4 hC4
        have HG5 := Aside0.mk (Lib.heap_setCell_same (i := 0) hst (.slice A4 n4 c4))
        have HB5 := Aside0.mk (hb4.setCell (p := ⟨w2.heap.size, 0, none⟩) (HB2.out.size) (.slice A4 n4 c4))
        have HR5 := Aside0.mk (hC4.far hD4 0 (.slice A4 n4 c4))
        have HD5 := Aside0.mk hD4
        have HF5 := Aside0.mk (SK.base hr4)
        have HC5 := Aside0.mk hc4
        have hn4m : n4 ≤ 9223372036854775807 := by have := hC4.1; have := hn4.out; omega
        clear hst hct hft hr4 hb4 hg4 hat4 hC4 hc4 hD4 hk1 hk2 hb3 hu3 hC3 hc3 hst4 hfr hbw hOd hBd hlw hno KS HI0 c0 hg1 HC2 HO HG HB
        generalize w4.setCell ⟨w2.heap.size, 0, none⟩ (.slice A4 n4 c4) = w5 at *
        obtain ⟨full, hfull⟩ : ∃ full, Aside0 (full = editP r.ps (tot r.ps) 0 l) := ⟨_, ⟨rfl⟩⟩
        rw [← hfull.out] at hn4 HC5 HR5 HT
        have d0 : w5.cell? ⟨w2.heap.size, 0, none⟩ = some (.slice A4 n4 c4) := by rw [Lib.cell_of_heap HG5.out]; rfl
        go_wp2_with fail
        clear d0
        go_loopg [83] n4 (fun kq v83 w' => ∃ (j : Nat), v83 = .int .i64 j ∧ Aside0 (j + kq = n4) ∧ Aside0 (w'.heap[w2.heap.size]? = some (.cells #[.slice A4 n4 c4, .int .i64 (tot (full.take j) : Nat), .pointer (some ⟨g, 0, none⟩), .bool true] 66 (0, 0))) ∧ Aside0 (RS w' A4 full) ∧ Aside0 (Below wx.heap.size wx w'))
        case atStart => exact ⟨0, rfl, ⟨by omega⟩, by simpa [tot] using HG5, HR5, HB5⟩
        case round =>
          clear HG5 HB5 HR5
          obtain ⟨j, rfl, HK, HG, HR, HB⟩ := hrel
          by_cases hjn : j < n4
          · have hjf : j < full.length := by have := hn4.out; omega
            obtain ⟨bk, o, rfl, hx⟩ := HR.out.2 (by omega)
            have hx1 := hx j _ (List.getElem?_eq_getElem hjf)
            have HT2 := Aside0.mk (tot_take full j hjf)
            have HT3 := Aside0.mk (tot_take_le full (j + 1))
            clear hx
            generalize full[j] = s at *
            obtain ⟨m, hm⟩ : ∃ m, Aside0 (m = tot (full.take j)) := ⟨_, ⟨rfl⟩⟩
            have d1 : wr.cell? ⟨w2.heap.size, 1, none⟩ = some (.int .i64 (m : Nat)) := by rw [Lib.cell_of_heap HG.out, hm.out]; rfl
            have d2 := Lib.frozen_of_heap HG.out 1
            have HS := Aside0.mk (show m + s.size ≤ 1000000 by have := HT.out; have := HT2.out; have := HT3.out; have := hm.out; omega)
            cases gk with
            | zero => exact absurd hjn (by have := HK.out; omega)
            | succ kq' =>
            go_wp2_with fail
            go_roundg kq'
            case measure => omega
            case rel =>
              have e1 : m + s.size = tot (full.take (j + 1)) := by rw [HT2.out, hm.out]
              refine ⟨j + 1, by go_num, ⟨by have := HK.out; omega⟩, ⟨(Lib.heap_setCell_same (i := 1) HG.out _).trans ?_⟩, ⟨HR.out.far HD5.out 1 _⟩, ⟨HB.out.setCell (p := ⟨w2.heap.size, 1, none⟩) (HB2.out.size) _⟩⟩
              rw [w64 (by omega) (by have := HS.out; omega), ← e1, ← hm.out]
              rfl
          · have hjl : j = n4 := by have := HK.out; omega
            have hG := HG.out
            rw [List.take_of_length_le (by have := hn4.out; omega)] at hG
            have HG' := Aside0.mk hG
            clear hG HG
            go_wp2_with fail
            go_ret2
            rw [← hfull.out]
            refine ⟨_, rfl, ⟨HB2.out.size, A4, c4, ?_, ?_, HR.out.f HF5.out⟩, HB.out⟩
            · rw [HG'.out, hn4.out]
            · have := HC5.out; exact this
end Go.Proofs.Ytfllpoonfhiipaa.Rope

set_option linter.unusedVariables false
set_option linter.unusedSimpArgs false
namespace Go.Proofs.Ytfllpoonfhiipaa.Rope
open Go.RowKit Go.Proofs.Ytfllpoonfhiipaa Go.Proofs.Ytfllpoonfhiipaa.P Go.Proofs.Ytfllpoonfhiipaa.Bld Go.Proofs.YtfllpoonfhiipaaW.PrintWords Go.Proofs.YtfllpoonfhiipaaW.PrintLast Go.Proofs.YtfllpoonfhiipaaW.PrintMore
attribute [local go_sem] max2_int min2_int max_two min_two max_three min_three max_four min_four
set_option maxHeartbeats 4000000 in
set_option maxRecDepth 100000 in
theorem Slice_bad (v : Value) (r : Rp) (a b : Int) (w : World) (h : IsRp w v r) (hx : ¬ (0 ≤ a ∧ a ≤ b ∧ b ≤ (tot r.ps : Int))) :
    Calls Try.prog 38 #[v, .agg #[.int .i64 a, .int .i64 b]] w fun e w' => e = .returned (.tuple #[.string ⟨#[]⟩, .int .i64 2]) ∧ Below w.heap.size w w' := by
  obtain ⟨g, u, rfl, hl⟩ := h.open
  obtain ⟨W1, hW1⟩ : ∃ W1, W1 = w.alloc (.cells #[.int .i64 a, .int .i64 b] 49) := ⟨_, rfl⟩
  have hB0 : Below w.heap.size w W1 := by rw [hW1]; exact (Below.refl _ _).alloc (Nat.le_refl _) _
  obtain ⟨A, c, h0, h1, h2, h3, hc, hr⟩ := (hl.below hB0).cells
  have BK : W1.heap[w.heap.size]? = some (.cells #[.int .i64 a, .int .i64 b] 49 (0, 0)) := by rw [hW1]; exact alloc_at _ _
  have p0 : W1.cell? ⟨w.heap.size, 0, none⟩ = some (.int .i64 a) := Lib.cell_of_heap BK 0
  have p1 : W1.cell? ⟨w.heap.size, 1, none⟩ = some (.int .i64 b) := Lib.cell_of_heap BK 1
  have HB := Aside0.mk hB0
  have HW := Aside0.mk hW1
  obtain ⟨j, hj, _⟩ := Option.map_eq_some_iff.1 (show (Try.prog.info? 66).map (·.size) = some 4 by kernel_rfl)
  clear hr h hl h0 h2 BK hB0 hW1
  generalize tot r.ps = z at *
  go_enter Try.func38, Try.ntmps38
  go_upto_region 1 with fail
  rw [← HW.out]
  by_cases c1 : a < 0
  · have d1 : decide (a < 0) = true := decide_eq_true c1
    go_wp2_with (go_at_call 49; refine (none_made g _ h3).mono ?_; rintro e w1 ⟨rfl, rfl⟩)
    go_quiet (fail)
    go_wp2_with fail
    go_ret2
    exact ⟨rfl, pw_below_drewN HB.out _⟩
  · have d1 : decide (a < 0) = false := decide_eq_false c1
    by_cases c2 : a > b
    · have d2 : decide (a > b) = true := decide_eq_true c2
      go_wp2_with (go_at_call 49; refine (none_made g _ h3).mono ?_; rintro e w1 ⟨rfl, rfl⟩)
      go_quiet (fail)
      go_wp2_with fail
      go_ret2
      exact ⟨rfl, pw_below_drewN HB.out _⟩
    · have d2 : decide (a > b) = false := decide_eq_false c2
      have d3 : decide (b > (z : Int)) = true := decide_eq_true (by omega)
      go_wp2_with (go_at_call 49; refine (none_made g _ h3).mono ?_; rintro e w1 ⟨rfl, rfl⟩)
      go_quiet (fail)
      go_wp2_with fail
      go_ret2
      exact ⟨rfl, pw_below_drewN HB.out _⟩
set_option maxHeartbeats 4000000 in
set_option maxRecDepth 100000 in
theorem Slice_ok (v : Value) (r : Rp) (a b : Int) (w : World) (h : IsRp w v r) (hs : tot r.ps ≤ 1000000) (hn : r.ps.length ≤ 1000000) (ha : 0 ≤ a) (hab : a ≤ b) (hb : b ≤ (tot r.ps : Int)) (ht : tot (cutP a b 0 r.ps) ≤ 1000000) :
    Calls Try.prog 38 #[v, .agg #[.int .i64 a, .int .i64 b]] w fun e w' => e = .returned (.tuple #[.string ⟨(txt (cutP a b 0 r.ps)).toArray⟩, .int .i64 0]) ∧ Below w.heap.size w w' := by
  obtain ⟨g, u, rfl, hl⟩ := h.open
  obtain ⟨W1, hW1⟩ : ∃ W1, W1 = w.alloc (.cells #[.int .i64 a, .int .i64 b] 49) := ⟨_, rfl⟩
  have hB0 : Below w.heap.size w W1 := by rw [hW1]; exact (Below.refl _ _).alloc (Nat.le_refl _) _
  obtain ⟨A, c, h0, h1, h2, h3, hc, hr⟩ := (hl.below hB0).cells
  have BK : W1.heap[w.heap.size]? = some (.cells #[.int .i64 a, .int .i64 b] 49 (0, 0)) := by rw [hW1]; exact alloc_at _ _
  have p0 : W1.cell? ⟨w.heap.size, 0, none⟩ = some (.int .i64 a) := Lib.cell_of_heap BK 0
  have p1 : W1.cell? ⟨w.heap.size, 1, none⟩ = some (.int .i64 b) := Lib.cell_of_heap BK 1
  have HB := Aside0.mk hB0
  have HW := Aside0.mk hW1
  have HI := Aside0.mk (h.below hB0)
  obtain ⟨j, hj, _⟩ := Option.map_eq_some_iff.1 (show (Try.prog.info? 66).map (·.size) = some 4 by kernel_rfl)
  have HC := Aside0.mk (fun (W2 : World) (hb2 : Below W1.heap.size W1 W2) => cut_ok _ r a b W2 (HI.out.below hb2) hs ha (by omega) (by omega) (by omega) hn)
  have hlen := cutP_length a b r.ps 0
  clear hr h hl h0 h2 BK hB0 hW1
  have d1 : decide (a < 0) = false := decide_eq_false (by omega)
  have d2 : decide (a > b) = false := decide_eq_false (by omega)
  have d3 : decide (b > (tot r.ps : Int)) = false := decide_eq_false (by omega)
  go_enter Try.func38, Try.ntmps38
  go_upto_region 1 with fail
  rw [← HW.out]
  go_wp2_with (go_at_call 49; refine (none_made g _ h3).mono ?_; rintro e w1 ⟨rfl, rfl⟩)
  go_quiet (fail)
  go_wp2_with fail
  refine (HC.out _ (pw_below_drewN (Below.refl _ _) _)).mono ?_
  rintro e w2 ⟨v2, rfl, hu2, hb2⟩
  have HB2 := Aside0.mk (Kx.below_step (pw_below_drewN HB.out _) hb2)
  have hk : SK w2 w1.heap.size w2.heap.size v2 (cutP a b 0 r.ps) := Kd.R_of_own hu2 (fun k hk e => by have := own_lt hu2 k hk; omega)
  obtain ⟨A2, c2, rfl, hc2, hr2, _⟩ := RS.of_SK hk (by omega)
  clear hu2 hk hb2
  obtain ⟨xs, hxs⟩ : ∃ xs, Aside0 (xs = cutP a b 0 r.ps) := ⟨_, ⟨rfl⟩⟩
  rw [← hxs.out] at hc2 hr2 hlen ht
  simp only [← hxs.out]
  by_cases hp : 0 < xs.length
  · obtain ⟨bk, o, rfl, hx⟩ := hr2.2 hp
    have hbk : bk < w2.heap.size := World.block_lt_of_cell? w2 ⟨bk, o + 0, none⟩ (hx 0 _ (List.getElem?_eq_getElem hp))
    have hj := Try.strings_Join bk o c2 xs ⟨#[]⟩ w2 hx hbk hr2.1 hc2 (by rw [show ((⟨#[]⟩ : ByteArray).data.toList) = [] from rfl, join_nil]; rw [show (xs.map (·.data.toList)).flatten.length = tot xs from txt_length xs]; omega)
    rw [show ((⟨#[]⟩ : ByteArray).data.toList) = [] from rfl, join_nil] at hj
    have HJ := Aside0.mk hj
    clear hj hx hr2
    go_wp2_with fail
    refine HJ.out.mono ?_
    rintro e w3 ⟨rfl, hb3⟩
    go_wp2_with fail
    go_ret2
    exact ⟨by rw [← hxs.out]; rfl, Kx.below_step HB2.out hb3⟩
  · have he : xs = [] := List.length_eq_zero_iff.mp (by omega)
    have HE := Aside0.mk he
    have hz : xs.length = 0 := by rw [he]; rfl
    simp only [hz]
    go_wp2_with fail
    refine (Try.strings_Join_none _ _ _ _).mono ?_
    rintro e w3 ⟨rfl, rfl⟩
    go_wp2_with fail
    go_ret2
    exact ⟨by rw [← hxs.out, HE.out]; rfl, HB2.out⟩
end Go.Proofs.Ytfllpoonfhiipaa.Rope

set_option linter.unusedVariables false
namespace Go.Proofs.Ytfllpoonfhiipaa.Pure
open Go.RowKit Go.Proofs.Ytfllpoonfhiipaa Go.Proofs.Ytfllpoonfhiipaa.P Go.Proofs.Ytfllpoonfhiipaa.Rope Go.Proofs.YtfllpoonfhiipaaW.PrintWords Go.Proofs.YtfllpoonfhiipaaW.PrintLast Go.Proofs.YtfllpoonfhiipaaW.PrintMore
theorem txt_cons (s : ByteArray) (r : List ByteArray) : txt (s :: r) = s.data.toList ++ txt r := by simp [txt]
theorem txt_append (a b : List ByteArray) : txt (a ++ b) = txt a ++ txt b := by simp [txt]
theorem ext_list (s : ByteArray) (a b : Nat) : (s.extract a b).data.toList = (s.data.toList.take b).drop a := by
  simp [ByteArray.data_extract, Array.toList_extract, List.extract_eq_take_drop, List.drop_take]
theorem txt_cutP (a b : Int) (ha : 0 ≤ a) : ∀ (ps : List ByteArray) (p : Int), 0 ≤ p → txt (cutP a b p ps) = ((txt ps).take (b - p).toNat).drop (a - p).toNat
  | [], p, hp => by simp [cutP, txt]
  | s :: r, p, hp => by
    have ih := txt_cutP a b ha r (p + s.size) (by omega)
    have hsz : s.data.toList.length = s.size := Ut.size_data s
    rw [txt_cons, List.take_append, List.drop_append, hsz, List.length_take, hsz]
    have e1 : (b - (p + s.size)).toNat = (b - p).toNat - s.size := by omega
    have e2 : (a - (p + s.size)).toNat = (a - p).toNat - s.size := by omega
    rw [e1, e2] at ih
    simp only [cutP]
    by_cases hb : (s.size : Int) < b - p
    · rw [if_pos hb]
      have m1 : min (b - p).toNat s.size = s.size := by omega
      rw [m1]
      by_cases hx : (if a - p < 0 then 0 else a - p) < (s.size : Int)
      · rw [if_pos hx, txt_cons, ih, ext_list]
        have e3 : (if a - p < 0 then (0 : Int) else a - p).toNat = (a - p).toNat := by split <;> omega
        rw [e3]
        congr 2
        rw [List.take_of_length_le (by omega), List.take_of_length_le (by omega)]
      · rw [if_neg hx, ih, show (s.data.toList.take (b - p).toNat).drop (a - p).toNat = [] from List.drop_of_length_le (by rw [List.length_take, hsz]; revert hx; split <;> omega)]
        simp
    · rw [if_neg hb]
      have m1 : min (b - p).toNat s.size = (b - p).toNat := by omega
      have z1 : (b - p).toNat - s.size = 0 := by omega
      rw [z1, List.take_zero, List.drop_nil] at ih
      rw [m1, z1, List.take_zero, List.drop_nil, List.append_nil]
      by_cases hx : (if a - p < 0 then 0 else a - p) < b - p
      · rw [if_pos hx, txt_cons, ih, ext_list, List.append_nil]
        have e3 : (if a - p < 0 then (0 : Int) else a - p).toNat = (a - p).toNat := by split <;> omega
        rw [e3]
      · rw [if_neg hx, ih, List.drop_of_length_le (by rw [List.length_take, hsz]; revert hx; split <;> omega)]
theorem txt_cut0 (a b : Int) (ha : 0 ≤ a) (ps : List ByteArray) : txt (cutP a b 0 ps) = cutS (ba (txt ps)) a b := by
  rw [txt_cutP a b ha ps 0 (by omega), cutS_eq, ba_list]
  simp
theorem txt_editP (ps : List ByteArray) : ∀ (l : List Ed) (p : Int), sp (tot ps) p l = true → 0 ≤ p → txt (editP ps (tot ps) p l) = app (ba (txt ps)) p l
  | [], p, h, hp => by
    have e : ((ba (txt ps)).size : Int) = tot ps := by rw [ba_size, txt_length]
    simp only [editP, app]
    rw [txt_cut0 _ _ hp, e]
  | e :: r, p, h, hp => by
    obtain ⟨h1, h2, h3, h4⟩ := sp_cons h
    simp only [editP, app]
    rw [txt_append, txt_append, txt_cut0 _ _ hp, txt_editP ps r e.f1 h4 (by omega)]
    congr 2
    by_cases hz : e.f2.size = 0
    · rw [if_pos hz]
      have : e.f2.data.toList.length = 0 := by rw [Ut.size_data]; exact hz
      rw [List.length_eq_zero_iff.mp this]
      simp [txt]
    · rw [if_neg hz]; simp [txt]
theorem tot_txt (ps : List ByteArray) : tot ps = (ba (txt ps)).size := by rw [ba_size, txt_length]
end Go.Proofs.Ytfllpoonfhiipaa.Pure

set_option linter.unusedVariables false
set_option linter.unusedSimpArgs false
namespace Go.Proofs.Ytfllpoonfhiipaa.Rope
open Go.RowKit Go.Proofs.Ytfllpoonfhiipaa Go.Proofs.YtfllpoonfhiipaaW.PrintWords Go.Proofs.YtfllpoonfhiipaaW.PrintLast Go.Proofs.YtfllpoonfhiipaaW.PrintMore
/-- The walk over bytes: at p, so many line feeds before it, the line's begin; the line that was looked for, if it has ended. -/
def scan (n : Int) : List UInt8 → Nat → Nat → Nat → Option (Nat × Nat) × Nat × Nat
  | [], p, l, f => (none, l, f)
  | c :: r, p, l, f => if c = 10 then (if (l : Int) = n then (some (f, p), l, f) else scan n r (p + 1) (l + 1) (p + 1)) else scan n r (p + 1) l f
def lineR (n : Int) (z : Nat) : Option (Nat × Nat) × Nat × Nat → Int × Int × Int
  | (some (a, b), _, _) => ((a : Int), (b : Int), 0)
  | (none, l, f) => if (l : Int) = n then ((f : Int), (z : Int), 0) else (0, 0, 2)
def lineA (n : Int) (t : List UInt8) : Int × Int × Int := lineR n t.length (scan n t 0 0 0)
theorem txt_cons (s : ByteArray) (r : List ByteArray) : txt (s :: r) = s.data.toList ++ txt r := by simp [txt]
theorem tot_cons' (s : ByteArray) (r : List ByteArray) : tot (s :: r) = s.size + tot r := by simp [tot]
set_option maxHeartbeats 4000000 in
set_option maxRecDepth 100000 in
theorem Line_ok (v : Value) (r : Rp) (n : Int) (w : World) (h : IsRp w v r) (hs : tot r.ps ≤ 1000000) :
    Calls Try.prog 39 #[v, .int .i64 n] w fun e w' => e = .returned (.tuple #[.agg #[.int .i64 (lineA n (txt r.ps)).1, .int .i64 (lineA n (txt r.ps)).2.1], .int .i64 (lineA n (txt r.ps)).2.2]) ∧ Below w.heap.size w w' := by
  obtain ⟨g, u, rfl, hl⟩ := h.open
  obtain ⟨A, c, h0, h1, h2, h3, hc, hr⟩ := hl.cells
  have hgl : g < w.heap.size := World.block_lt_of_cell? w _ h0
  have hB0 : Below w.heap.size w (w.alloc (.cells #[.int .i64 0, .int .i64 0] 49)) := (Below.refl _ _).alloc (Nat.le_refl _) _
  have g3 := (hB0.cell hgl).trans h3
  have g0 := (hB0.cell hgl).trans h0
  have g1 := (hB0.cell hgl).trans h1
  have HT := Aside0.mk (txt_length r.ps)
  have HR := Aside0.mk (hr.below hB0)
  have HB := Aside0.mk hB0
  have hm := hr.1
  clear hr h hl h0 h1 h2 h3 hB0
  unfold lineA
  go_enter Try.func39, Try.ntmps39
  go_wp2_with (go_at_call 49; refine (none_made g _ g3).mono ?_; rintro e w1 ⟨rfl, rfl⟩)
  go_loopg [6, 7, 8, 20] r.ps.length (fun kq v6 v7 v8 v20 w' => ∃ (i p l f : Nat), v6 = .int .i64 (p : Int) ∧ v7 = .int .i64 (l : Int) ∧ v8 = .int .i64 (f : Int) ∧ v20 = .int .i64 (i : Int) ∧ w' = w.alloc (.cells #[.int .i64 0, .int .i64 0] 49) ∧ Aside0 (i + kq = r.ps.length) ∧ Aside0 (scan n (txt (r.ps.drop i)) p l f = scan n (txt r.ps) 0 0 0) ∧ Aside0 (p + tot (r.ps.drop i) = tot r.ps ∧ l ≤ p ∧ f ≤ p))
  case atStart => exact ⟨0, 0, 0, 0, rfl, rfl, rfl, rfl, rfl, ⟨by omega⟩, ⟨by simp⟩, ⟨by simp⟩⟩
  case round =>
    obtain ⟨i, p, l, f, rfl, rfl, rfl, rfl, rfl, HK, HC, HP⟩ := hrel
    by_cases hlt : i < r.ps.length
    · obtain ⟨bk, o, rfl, hx⟩ := HR.out.2 (by omega)
      have hx1 := hx i _ (List.getElem?_eq_getElem hlt)
      have hC := HC.out
      have hP := HP.out
      rw [List.drop_eq_getElem_cons hlt] at hC hP
      rw [tot_cons'] at hP
      rw [txt_cons] at hC
      clear hx
      generalize r.ps[i] = s at *
      obtain ⟨p0, p1, p2⟩ := hP
      have HP0 := Aside0.mk p0
      have HC1 := Aside0.mk hC
      have hsz : s.size ≤ 1000000 := by omega
      have hpz : p + s.size ≤ 1000000 := by omega
      clear hC HC HP p0
      cases gk with
      | zero => exact absurd hlt (by have := HK.out; omega)
      | succ kq' =>
      go_wp2_with fail
      go_loopg [7, 8, 26] s.size (fun kq v7 v8 v26 w' => ∃ (k l' f' : Nat), v7 = .int .i64 (l' : Int) ∧ v8 = .int .i64 (f' : Int) ∧ v26 = .int .i64 (k : Int) ∧ w' = w.alloc (.cells #[.int .i64 0, .int .i64 0] 49) ∧ Aside0 (k + kq = s.size) ∧ Aside0 (scan n (s.data.toList.drop k ++ txt (r.ps.drop (i + 1))) (p + k) l' f' = scan n (txt r.ps) 0 0 0) ∧ Aside0 (l' ≤ p + k ∧ f' ≤ p + k))
      case atStart => exact ⟨0, l, f, rfl, rfl, rfl, rfl, ⟨by omega⟩, ⟨by simpa using HC1.out⟩, ⟨by omega⟩⟩
      case round =>
        obtain ⟨k, l', f', rfl, rfl, rfl, rfl, HK2, HC2, HP2⟩ := hrel
        have hz := Ut.size_data s
        by_cases hk : k < s.size
        · have hlt2 : k < s.data.toList.length := by omega
          have hC := HC2.out
          rw [List.drop_eq_getElem_cons hlt2] at hC
          have hsb : s[k]'hk = s.data.toList[k] := rfl
          generalize s.data.toList[k] = b at *
          simp only [List.cons_append, scan] at hC
          have hd1 : decide ((k : Int) < (s.size : Int)) = true := decide_eq_true (by omega)
          have q0 : (0 ≤ (k : Int)) = True := eq_true (by omega)
          have q1 : ((k : Int) < (s.size : Int)) = True := eq_true (by omega)
          obtain ⟨l0, f0⟩ := HP2.out
          cases gk with
          | zero => exact absurd hk (by have := HK2.out; omega)
          | succ kq2 =>
          by_cases hb : b = 10
          · have hne : ((((s[k]'hk).toNat : Nat) : Int) != 10) = false := by rw [hsb, hb]; rfl
            rw [if_pos hb] at hC
            by_cases hn : (l' : Int) = n
            · rw [if_pos hn] at hC
              have HC3 := Aside0.mk hC
              have hn2 : ((l' : Int) == n) = true := beq_iff_eq.mpr hn
              clear hC HC2 hsb hb hn hz
              go_wp2_with fail
              refine bodyPost_ret (results_ct rfl _ _ w.heap.size 49 #[.int .i64 (f' : Int), .int .i64 ((p : Int) + (k : Int))] (0, 0) _ rfl (by exact blk_new _ _) Try.underlying49 rfl (by kernel_rfl)) rfl ?_
              exact ⟨by rw [← HC3.out]; simp [lineR], by repeat (first | exact Below.refl _ _ | apply below_alloc | apply pw_below_drewN | apply below_drew1 | refine below_set ?_ (Nat.le_refl _))⟩
            · rw [if_neg hn] at hC
              have HC3 := Aside0.mk hC
              have hn2 : ((l' : Int) == n) = false := beq_eq_false_iff_ne.mpr hn
              clear hC HC2 hsb hb hn hz
              go_wp2_with fail
              go_roundg kq2
              case measure => omega
              case rel => exact ⟨k + 1, l' + 1, p + k + 1, by go_num, by go_num, by go_num, rfl, ⟨by have := HK2.out; omega⟩, HC3, ⟨by omega⟩⟩
          · have hne : ((((s[k]'hk).toNat : Nat) : Int) != 10) = true := by
              rw [hsb]
              refine bne_iff_ne.mpr (fun e => hb (UInt8.toNat_inj.1 ?_))
              have : (10 : UInt8).toNat = 10 := rfl
              omega
            rw [if_neg hb] at hC
            have HC3 := Aside0.mk hC
            clear hC HC2 hsb hb hz
            go_wp2_with fail
            go_roundg kq2
            case measure => omega
            case rel => exact ⟨k + 1, l', f', rfl, rfl, by go_num, rfl, ⟨by have := HK2.out; omega⟩, HC3, ⟨by omega⟩⟩
        · have hC := HC2.out
          rw [List.drop_of_length_le (by omega)] at hC
          have HC3 := Aside0.mk hC
          have hd1 : decide ((k : Int) < (s.size : Int)) = false := decide_eq_false (by omega)
          have hks : k = s.size := by have := HK2.out; omega
          obtain ⟨l0, f0⟩ := HP2.out
          subst hks
          clear hC HC2 hz
          go_wp2_with fail
          go_roundg kq'
          case measure => omega
          case rel => exact ⟨i + 1, p + s.size, l', f', by go_num, rfl, rfl, by go_num, rfl, ⟨by have := HK.out; omega⟩, by simpa using HC3, ⟨by have := HP0.out; omega⟩⟩
    · have hC := HC.out
      rw [List.drop_of_length_le (by omega)] at hC
      have HC3 := Aside0.mk hC
      have hd1 : decide ((i : Int) < (r.ps.length : Int)) = false := decide_eq_false (by omega)
      clear hC HC
      by_cases hn : (l : Int) = n
      · have hn2 : ((l : Int) != n) = false := bne_eq_false_iff_eq.mpr hn
        have HN := Aside0.mk hn
        clear hn
        go_wp2_with fail
        refine bodyPost_ret (results_ct rfl _ _ w.heap.size 49 #[.int .i64 (f : Int), .int .i64 (tot r.ps : Int)] (0, 0) _ rfl (by exact blk_new _ _) Try.underlying49 rfl (by kernel_rfl)) rfl ?_
        exact ⟨by rw [← HC3.out, HT.out]; simp only [txt, List.map_nil, List.flatten_nil, scan, lineR, if_pos HN.out]; rfl, by repeat (first | exact Below.refl _ _ | apply below_alloc | apply pw_below_drewN | apply below_drew1 | refine below_set ?_ (Nat.le_refl _))⟩
      · have hn2 : ((l : Int) != n) = true := bne_iff_ne.mpr hn
        have HN := Aside0.mk hn
        clear hn
        go_wp2_with fail
        refine bodyPost_ret (results_ct rfl _ _ w.heap.size 49 #[.int .i64 0, .int .i64 0] (0, 0) _ rfl (by exact blk_new _ _) Try.underlying49 rfl (by kernel_rfl)) rfl ?_
        exact ⟨by rw [← HC3.out, HT.out]; simp only [txt, List.map_nil, List.flatten_nil, scan, lineR, if_neg HN.out]; rfl, by repeat (first | exact Below.refl _ _ | apply below_alloc | apply pw_below_drewN | apply below_drew1 | refine below_set ?_ (Nat.le_refl _))⟩
end Go.Proofs.Ytfllpoonfhiipaa.Rope

set_option linter.unusedVariables false
set_option linter.unusedSimpArgs false
namespace Go.Proofs.Ytfllpoonfhiipaa.P
open Go.RowKit Go.Proofs.Ytfllpoonfhiipaa Go.Proofs.YtfllpoonfhiipaaW.PrintWords Go.Proofs.YtfllpoonfhiipaaW.PrintLast Go.Proofs.YtfllpoonfhiipaaW.PrintMore
/-- The spans of the lines. -/
def sl : List UInt8 → Nat → Nat → List (Int × Int)
  | [], f, p => [((f : Int), (p : Int))]
  | c :: r, f, p => if c = 10 then ((f : Int), (p : Int)) :: sl r (p + 1) (p + 1) else sl r f (p + 1)
def lns (l : List UInt8) : List (Int × Int) := sl l 0 0
theorem sl_length : ∀ (r : List UInt8) (f p : Nat), (sl r f p).length = r.count 10 + 1
  | [], _, _ => rfl
  | c :: r, f, p => by
    simp only [sl]
    by_cases h : c = 10
    · rw [if_pos h, List.length_cons, sl_length r, h, List.count_cons_self]
    · rw [if_neg h, sl_length r, List.count_cons_of_ne h]
theorem scan_in (n : Nat) : ∀ (r : List UInt8) (f p l : Nat) (x : Int × Int), l ≤ n → (sl r f p)[n - l]? = some x → Rope.lineR (n : Int) (p + r.length) (Rope.scan (n : Int) r p l f) = (x.1, x.2, 0) := by
  intro r
  induction r with
  | nil =>
    intro f p l x hl hx
    simp only [sl] at hx
    have e : n - l = 0 := by
      rcases Nat.eq_zero_or_pos (n - l) with h | h
      · exact h
      · rw [List.getElem?_eq_none (by simp; omega)] at hx; cases hx
    rw [e] at hx
    simp only [List.getElem?_cons_zero, Option.some.injEq] at hx
    subst hx
    simp only [Rope.scan, Rope.lineR, List.length_nil, Nat.add_zero]
    rw [if_pos (by omega)]
  | cons c r ih =>
    intro f p l x hl hx
    simp only [sl] at hx
    simp only [Rope.scan]
    by_cases h : c = 10
    · rw [if_pos h] at hx ⊢
      by_cases e : (l : Int) = (n : Int)
      · rw [if_pos e]
        rw [show n - l = 0 by omega] at hx
        simp only [List.getElem?_cons_zero, Option.some.injEq] at hx
        subst hx
        rfl
      · rw [if_neg e]
        rw [show n - l = (n - (l + 1)) + 1 by omega, List.getElem?_cons_succ] at hx
        have := ih (p + 1) (p + 1) (l + 1) x (by omega) hx
        rw [← this, List.length_cons]
        congr 1
        omega
    · rw [if_neg h] at hx ⊢
      have := ih f (p + 1) l x hl hx
      rw [← this, List.length_cons]
      congr 1
      omega
theorem scan_out (n : Int) (z : Nat) : ∀ (r : List UInt8) (f p l : Nat), n < l ∨ (l : Int) + r.count 10 + 1 ≤ n → Rope.lineR n z (Rope.scan n r p l f) = (0, 0, 2) := by
  intro r
  induction r with
  | nil =>
    intro f p l h
    simp only [List.count_nil] at h
    simp only [Rope.scan, Rope.lineR]
    rw [if_neg (by omega)]
  | cons c r ih =>
    intro f p l h
    simp only [Rope.scan]
    by_cases e : c = 10
    · rw [e, List.count_cons_self] at h
      rw [if_pos e, if_neg (by omega)]
      exact ih _ _ _ (by omega)
    · rw [List.count_cons_of_ne e] at h
      rw [if_neg e]
      exact ih _ _ _ h
theorem line_in (t : List UInt8) (n : Nat) (x : Int × Int) (h : (lns t)[n]? = some x) : Rope.lineA (n : Int) t = (x.1, x.2, 0) := by
  have := scan_in n t 0 0 0 x (by omega) (by simpa [lns] using h)
  unfold Rope.lineA
  rw [Nat.zero_add] at this
  exact this
theorem line_out (t : List UInt8) (n : Int) (h : n < 0 ∨ ((lns t).length : Int) ≤ n) : Rope.lineA n t = (0, 0, 2) := by
  unfold Rope.lineA
  have hl := sl_length t 0 0
  have e : lns t = sl t 0 0 := rfl
  rw [e] at h
  exact scan_out n _ t 0 0 0 (by omega)
theorem feeds_count : ∀ ps : List ByteArray, Rope.feeds ps = (Rope.txt ps).count 10
  | [] => rfl
  | p :: r => by
    rw [Rope.txt_cons, List.count_append, ← feeds_count r]
    simp [Rope.feeds, Lib.countByte]
theorem feeds_lns (ps : List ByteArray) : 1 + Rope.feeds ps = (lns (Rope.txt ps)).length := by
  rw [lns, sl_length, feeds_count]
  omega
end Go.Proofs.Ytfllpoonfhiipaa.P

namespace Go.Proofs.Ytfllpoonfhiipaa.Q
open Go.RowKit Go.Proofs.YtfllpoonfhiipaaW.PrintWords Go.Proofs.YtfllpoonfhiipaaW.PrintLast Go.Proofs.YtfllpoonfhiipaaW.PrintMore
attribute [local go_sem] max2_int min2_int max_two min_two max_three min_three max_four min_four
set_option linter.unusedVariables false
set_option linter.unusedSimpArgs false



def errW : Option Int → Value
  | none => .nilIface
  | some c => .iface 0 (.int .i64 c)
theorem errW_none : errW none = .nilIface := rfl
theorem errW_some (c : Int) : errW (some c) = .iface 0 (.int .i64 c) := rfl

theorem info49 : (Try.prog.info? 49).map (fun i => (i.zero, i.size, i.bytes)) = some (some (.agg #[(.int .i64 0), (.int .i64 0)]), 2, 16) := by kernel_rfl
/-! #### struct type 49 -/
structure S49 where
  f0 : Int
  f1 : Int
def z49 : S49 := ⟨(0 : Int), (0 : Int)⟩
def k49 : Kd S49 := Kd.iso (Kd.pair (Kd.int .i64) (Kd.int .i64)) (fun x : S49 => (x.f0, x.f1))
theorem k49_open {w : World} {x : S49} {cs : List Value} (h : k49.K w x cs) : cs = [.int .i64 x.f0, .int .i64 x.f1] := by
  obtain ⟨_, _, rfl, rfl, rfl⟩ := h
  exact rfl
theorem k49_mkM (w : World) (base : Nat) (ok : Nat → Prop) (x : S49)  : k49.M w base ok x [.int .i64 x.f0, .int .i64 x.f1] := ⟨[.int .i64 x.f0], [.int .i64 x.f1], rfl, rfl, rfl⟩
def rd_T49 (xs : List S49) (i : Int) : S49 := xs.getD i.toNat z49
theorem at_T49 {w : World} {A : Option Addr} {n : Nat} {xs : List S49} (h : Kd.C k49 w A n xs) (i : Int) (h0 : 0 ≤ i) (h1 : i < n) : ∃ ad , A = some ad ∧ w.cell? (ad.add (i.toNat * 2)) = some (.int .i64 (rd_T49 xs i).f0) ∧ w.cell? ⟨(ad.add (i.toNat * 2)).block, (ad.add (i.toNat * 2)).off + 1, none⟩ = some (.int .i64 (rd_T49 xs i).f1) := by
  obtain ⟨ad, c, e, _, hK, hc0⟩ := Kd.C_get h z49 i h0 h1
  have hc : ∀ j u, c[j]? = some u → w.cell? (ad.add (i.toNat * 2 + j)) = some u := hc0
  obtain rfl := k49_open hK
  exact ⟨ad, e, hc 0 _ rfl, by rw [← add_field _ _ 1 (by omega)]; exact hc 1 _ rfl⟩

end Go.Proofs.Ytfllpoonfhiipaa.Q

namespace Go.Proofs.Ytfllpoonfhiipaa.Q
open Go.RowKit Go.Proofs.YtfllpoonfhiipaaW.PrintWords Go.Proofs.YtfllpoonfhiipaaW.PrintLast Go.Proofs.YtfllpoonfhiipaaW.PrintMore
attribute [local go_sem] max2_int min2_int max_two min_two max_three min_three max_four min_four
set_option linter.unusedVariables false
set_option linter.unusedSimpArgs false

/-! ### marginaliaref01_Lines: function 52 -/
def marginaliaref01_Lines.l0 : Nat → ByteArray → List (S49) → Int → Int → Option ((List (S49)))
  | 0, _, _, _, _ => none
  | k + 1, x0, x3, x4, x5 => if x5 < (x0.size : Int) then (if 0 ≤ x5 then (if (bt x0 x5) = 10 then (if x3.length < 8796093022208 then (marginaliaref01_Lines.l0 k x0 (x3 ++ [(⟨x4, x5⟩ : S49)]) (wrap64 (x5 + 1)) (wrap64 (x5 + 1))) else (none)) else (marginaliaref01_Lines.l0 k x0 x3 x4 (wrap64 (x5 + 1)))) else (none)) else (if x3.length < 8796093022208 then (some (x3 ++ [(⟨x4, (x0.size : Int)⟩ : S49)])) else (none))
def marginaliaref01_Lines.f (k : Nat) (a0 : ByteArray) : Option ((List (S49))) := marginaliaref01_Lines.l0 k a0 ([] : List (S49)) 0 0
set_option maxHeartbeats 8000000 in
set_option maxRecDepth 100000 in
theorem marginaliaref01_Lines.calls (k : Nat) (a0 : ByteArray) (r : List (S49)) (w : World) (h : marginaliaref01_Lines.f k a0 = some r) :
    Calls Try.prog 52 #[.string a0] w fun e w' => ∃ v0_ : Value, e = .returned (v0_) ∧ Kd.R k49 49 w' w.heap.size (fun _ => True) v0_ r ∧ Below w.heap.size w w' := by
  have hu49 := Try.underlying49
  have HB := Aside0.mk (Below.refl w.heap.size w)
  have H : (marginaliaref01_Lines.l0 k a0 ([] : List (S49)) 0 0) = some r := h
  clear h
  have H' := Aside0.mk H
  clear H
  go_enter Try.func52, Try.ntmps52
  go_wp2
  go_loopg [3, 4, 5] k (fun kq v3 v4 v5 w' => ∃ (x3_1 : List (S49)) (x4_1 : Int) (x5_1 : Int), v4 = .int .i64 x4_1 ∧ v5 = .int .i64 x5_1 ∧ Aside0 (marginaliaref01_Lines.l0 kq a0 x3_1 x4_1 x5_1 = some r) ∧ Aside0 (kq ≤ k) ∧ Aside0 (Kd.R k49 49 w' w.heap.size (fun _ => True) v3 x3_1) ∧ Aside0 (Below w.heap.size w w'))
  case atStart => exact ⟨(([] : List (S49))), (0), (0), (by first | rfl | (simp; done) | (simp [*]; done)), (by first | rfl | (simp; done) | (simp [*]; done)), H', ⟨Nat.le_refl _⟩, ⟨by first | exact Kd.R_nil _ _ _ _ _ | exact Kd.N_nil _ _ _ _ _ | exact Kd.V_nil _ _ _ _ _ | exact Kd.Q_nil _ _ _ _ _ | exact Kd.S_nil _ _ _ _ _⟩, ⟨by repeat (first | (with_reducible first | exact HB.out | apply below_alloc | apply pw_below_drewN | apply below_drew1) | exact HB.out)⟩⟩
  case round =>
    clear H'
    obtain ⟨x3_1, x4_1, x5_1, rfl, rfl, HA, HK1, HO_3, HB⟩ := hrel
    cases gk with
    | zero => exact absurd HA.out (by simp [marginaliaref01_Lines.l0])
    | succ k1 =>
      have H := HA.out
      clear HA
      simp only [marginaliaref01_Lines.l0] at H
      by_cases c2 : x5_1 < (a0.size : Int)
      · rw [if_pos c2] at H
        have c2b0 : decide (x5_1 < (a0.size : Int)) = true := decide_eq_true c2
        clear c2
        by_cases c3 : 0 ≤ x5_1
        · rw [if_pos c3] at H
          have c3b0 : decide (0 ≤ x5_1) = true := decide_eq_true c3
          clear c3
          by_cases c5 : (bt a0 x5_1) = 10
          · rw [if_pos c5] at H
            have c5b0 : ((bt a0 x5_1) == 10) = true := beq_iff_eq.mpr c5
            have c5b1 : ((bt a0 x5_1) != 10) = false := bne_eq_false_iff_eq.mpr c5
            clear c5
            by_cases c6 : x3_1.length < 8796093022208
            · rw [if_pos c6] at H
              have LMc6 := Aside0.mk c6
              clear c6
              obtain ⟨y101, hy101⟩ : ∃ y_ : List (S49), y_ = (x3_1 ++ [(⟨x4_1, x5_1⟩ : S49)]) := ⟨_, rfl⟩
              replace H : (marginaliaref01_Lines.l0 k1 a0 y101 (wrap64 (x5_1 + 1)) (wrap64 (x5_1 + 1))) = some r := by first | (rw [hy101]; with_reducible exact H) | (have H2_ := (Option.bind_some _ _).symm.trans H; rw [hy101]; with_reducible exact H2_) | (have H2_ := (Option.bind_some _ _).symm.trans H; with_reducible exact H2_) | with_reducible exact H | (rw [hy101]; exact H) | exact H
              have Ny101 := Aside0.mk hy101
              clear hy101
              have H' := Aside0.mk H
              clear H
              have p4 : 0 ≤ (x5_1 : Int) := of_decide_eq_true (by first | (with_reducible assumption) | assumption)
              have q4 : x5_1 < (a0.size : Int) := of_decide_eq_true (by first | (with_reducible assumption) | assumption)
              have hx4 := bt_at a0 x5_1
              replace p4 := eq_true p4
              replace q4 := eq_true q4
              go_wp2_with (first | ((with_reducible refine gate_builtin (b := .append) (xs := #[.tmp 16, .tmp 20]) rfl ?_); at_builtin; refine Kd.R_append k49 (w0 := w) w.heap.size rfl (.tmp 16) (.tmp 20) 84 49 (.agg #[(.int .i64 0), (.int .i64 0)]) 16 rfl Try.underlying84 info49 rfl (by decide) (by omega) u3 x3_1 (⟨x4_1, x5_1⟩ : S49) [.int .i64 x4_1, .int .i64 x5_1] (fun _ => True) (fun _ => False) rfl rfl ?aP (fun _ hk => hk.elim) ?aF ?aO ?aB ?aS ?aL ?_; (case aP => exact k49_mkM _ _ _ (⟨x4_1, x5_1⟩ : S49)); (case aB => exact (by repeat (first | (with_reducible first | exact HB.out | apply below_alloc | apply pw_below_drewN | apply below_drew1) | exact HB.out))); (case aF => exact (fun _ _ => trivial)); (case aO => exact (by (with_reducible repeat (first | apply Kd.R_alloc | apply Kd.R_drewN | apply Kd.R_drew)); exact HO_3.out)); (case aS => exact (below_size (by repeat (first | (with_reducible first | exact HB.out | apply below_alloc | apply pw_below_drewN | apply below_drew1) | exact HB.out)))); (case aL => have := LMc6.out; omega); intro v102 w7 ho hb hg hat; rw [← Ny101.out] at ho; have n0_ := Aside0.mk (hb); have n1_ := Aside0.mk (ho); clear HB; clear HO_3; have HB := n0_; have HO103 := n1_; clear n0_ n1_; clear ho hb hg hat))
              go_roundg k1
              case measure => have := HK1.out; omega
              case rel => exact ⟨(y101), (wrap64 (x5_1 + 1)), (wrap64 (x5_1 + 1)), (by first | rfl | (simp; done) | (simp [*]; done)), (by first | rfl | (simp; done) | (simp [*]; done)), H', ⟨by have := HK1.out; omega⟩, ⟨by (with_reducible repeat (first | apply Kd.R_alloc | apply Kd.R_drewN | apply Kd.R_drew)); exact HO103.out⟩, ⟨by repeat (first | (with_reducible first | exact HB.out | apply below_alloc | apply pw_below_drewN | apply below_drew1) | exact HB.out)⟩⟩
            · rw [if_neg c6] at H
              exact absurd H (by simp)
          · rw [if_neg c5] at H
            have c5b0 : ((bt a0 x5_1) == 10) = false := beq_eq_false_iff_ne.mpr c5
            have c5b1 : ((bt a0 x5_1) != 10) = true := bne_iff_ne.mpr c5
            have H' := Aside0.mk H
            clear H
            have p4 : 0 ≤ (x5_1 : Int) := of_decide_eq_true (by first | (with_reducible assumption) | assumption)
            have q4 : x5_1 < (a0.size : Int) := of_decide_eq_true (by first | (with_reducible assumption) | assumption)
            have hx4 := bt_at a0 x5_1
            replace p4 := eq_true p4
            replace q4 := eq_true q4
            go_wp2
            go_roundg k1
            case measure => have := HK1.out; omega
            case rel => exact ⟨(x3_1), (x4_1), (wrap64 (x5_1 + 1)), (by first | rfl | (simp; done) | (simp [*]; done)), (by first | rfl | (simp; done) | (simp [*]; done)), H', ⟨by have := HK1.out; omega⟩, ⟨by (with_reducible repeat (first | apply Kd.R_alloc | apply Kd.R_drewN | apply Kd.R_drew)); exact HO_3.out⟩, ⟨by repeat (first | (with_reducible first | exact HB.out | apply below_alloc | apply pw_below_drewN | apply below_drew1) | exact HB.out)⟩⟩
        · rw [if_neg c3] at H
          exact absurd H (by simp)
      · rw [if_neg c2] at H
        have c2b0 : decide (x5_1 < (a0.size : Int)) = false := decide_eq_false c2
        clear c2
        by_cases c8 : x3_1.length < 8796093022208
        · rw [if_pos c8] at H
          have LMc8 := Aside0.mk c8
          clear c8
          obtain ⟨y104, hy104⟩ : ∃ y_ : List (S49), y_ = (x3_1 ++ [(⟨x4_1, (a0.size : Int)⟩ : S49)]) := ⟨_, rfl⟩
          replace H : (some y104) = some r := by first | (rw [hy104]; with_reducible exact H) | (have H2_ := (Option.bind_some _ _).symm.trans H; rw [hy104]; with_reducible exact H2_) | (have H2_ := (Option.bind_some _ _).symm.trans H; with_reducible exact H2_) | with_reducible exact H | (rw [hy104]; exact H) | exact H
          have Ny104 := Aside0.mk hy104
          clear hy104
          obtain rfl := Option.some.inj H
          go_wp2_with (first | ((with_reducible refine gate_builtin (b := .append) (xs := #[.tmp 24, .tmp 29]) rfl ?_); at_builtin; refine Kd.R_append k49 (w0 := w) w.heap.size rfl (.tmp 24) (.tmp 29) 84 49 (.agg #[(.int .i64 0), (.int .i64 0)]) 16 rfl Try.underlying84 info49 rfl (by decide) (by omega) u3 x3_1 (⟨x4_1, (a0.size : Int)⟩ : S49) [.int .i64 x4_1, .int .i64 (a0.size : Int)] (fun _ => True) (fun _ => False) rfl rfl ?aP (fun _ hk => hk.elim) ?aF ?aO ?aB ?aS ?aL ?_; (case aP => exact k49_mkM _ _ _ (⟨x4_1, (a0.size : Int)⟩ : S49)); (case aB => exact (by repeat (first | (with_reducible first | exact HB.out | apply below_alloc | apply pw_below_drewN | apply below_drew1) | exact HB.out))); (case aF => exact (fun _ _ => trivial)); (case aO => exact (by (with_reducible repeat (first | apply Kd.R_alloc | apply Kd.R_drewN | apply Kd.R_drew)); exact HO_3.out)); (case aS => exact (below_size (by repeat (first | (with_reducible first | exact HB.out | apply below_alloc | apply pw_below_drewN | apply below_drew1) | exact HB.out)))); (case aL => have := LMc8.out; omega); intro v105 w9 ho hb hg hat; rw [← Ny104.out] at ho; have n0_ := Aside0.mk (hb); have n1_ := Aside0.mk (ho); clear HB; clear HO_3; have HB := n0_; have HO106 := n1_; clear n0_ n1_; clear ho hb hg hat))
          go_ret
          exact ⟨_, by first | rfl | (simp [errW_none, errW_some] <;> rfl) | (simp [*, errW_none, errW_some] <;> rfl), by (with_reducible repeat (first | apply Kd.R_alloc | apply Kd.R_drewN | apply Kd.R_drew)); exact HO106.out, by repeat (first | (with_reducible first | exact HB.out | apply below_alloc | apply pw_below_drewN | apply below_drew1) | exact HB.out)⟩
        · rw [if_neg c8] at H
          exact absurd H (by simp)

/-! ### marginaliaref01_IsSpan: function 53 -/
def marginaliaref01_IsSpan.f (a0_0 : Int) (a0_1 : Int) (a1 : Int) : Option (Bool) := if a0_0 ≥ 0 then (if a0_0 ≤ a0_1 then (some (decide (a0_1 ≤ a1))) else (some false)) else (some false)
set_option maxHeartbeats 8000000 in
set_option maxRecDepth 100000 in
theorem marginaliaref01_IsSpan.calls (a0_0 : Int) (a0_1 : Int) (a1 : Int) (r : Bool) (w : World) (h : marginaliaref01_IsSpan.f a0_0 a0_1 a1 = some r) :
    Calls Try.prog 53 #[.agg #[.int .i64 a0_0, .int .i64 a0_1], .int .i64 a1] w fun e w' => e = .returned (.bool r) ∧ Below w.heap.size w w' := by
  have hu49 := Try.underlying49
  have HB := Aside0.mk (Below.refl w.heap.size w)
  have H : (if a0_0 ≥ 0 then (if a0_0 ≤ a0_1 then (some (decide (a0_1 ≤ a1))) else (some false)) else (some false)) = some r := h
  clear h
  by_cases c3 : a0_0 ≥ 0
  · rw [if_pos c3] at H
    have c3b0 : decide (0 ≤ a0_0) = true := decide_eq_true c3
    clear c3
    by_cases c4 : a0_0 ≤ a0_1
    · rw [if_pos c4] at H
      have c4b0 : decide (a0_0 ≤ a0_1) = true := decide_eq_true c4
      clear c4
      obtain rfl := Option.some.inj H
      go_enter Try.func53, Try.ntmps53
      go_wp2_with (first | ((with_reducible refine gate_dst (N := 2) rfl ?_); refine box_event ?hg (N := 2) ?hd (cs := #[.int .i64 a0_0, .int .i64 a0_1]) (t := 49) ?hr ?_; (case hd => rfl); (case hg => rfl); (case hr => first | (go_simp; done) | (go_simp; rfl)); intro gb107 hg w5 hbox hb; have n0_ := Aside0.mk (below_step (by repeat (first | (with_reducible first | exact HB.out | apply below_alloc | apply pw_below_drewN | apply below_drew1) | exact HB.out)) hb); have n1_ := Aside0.mk (hbox); have n2_ := Aside0.mk ((by rw [hg]; exact (below_size (by repeat (first | (with_reducible first | exact HB.out | apply below_alloc | apply pw_below_drewN | apply below_drew1) | exact HB.out))) : w.heap.size ≤ gb107)); have n3_ := Aside0.mk ((by rw [hg]; exact (below_size (by repeat (first | (with_reducible first | exact HB.out | apply below_alloc | apply pw_below_drewN | apply below_drew1) | exact HB.out))) : w.heap.size ≤ gb107)); clear HB; have HB := n0_; have BK107 := n1_; have GW107 := n2_; have GE107 := n3_; clear n0_ n1_ n2_ n3_; clear hb hbox hg; have hcz6_0 : w5.cell? ⟨gb107, 0, none⟩ = some (.int .i64 a0_0) := (blk_cell BK107.out 0).trans rfl; have hcz6_1 : w5.cell? ⟨gb107, 1, none⟩ = some (.int .i64 a0_1) := (blk_cell BK107.out 1).trans rfl; have hfz6_0 := blk_frozen BK107.out 0; have hfz6_1 := blk_frozen BK107.out 1))
      go_ret
      exact ⟨by first | rfl | (simp [errW_none, errW_some] <;> rfl) | (simp [*, errW_none, errW_some] <;> rfl), by repeat (first | (with_reducible first | exact HB.out | apply below_alloc | apply pw_below_drewN | apply below_drew1 | refine below_set ?_ GE107.out) | exact HB.out)⟩
    · rw [if_neg c4] at H
      have c4b0 : decide (a0_0 ≤ a0_1) = false := decide_eq_false c4
      clear c4
      obtain rfl := Option.some.inj H
      go_enter Try.func53, Try.ntmps53
      go_wp2_with (first | ((with_reducible refine gate_dst (N := 2) rfl ?_); refine box_event ?hg (N := 2) ?hd (cs := #[.int .i64 a0_0, .int .i64 a0_1]) (t := 49) ?hr ?_; (case hd => rfl); (case hg => rfl); (case hr => first | (go_simp; done) | (go_simp; rfl)); intro gb107 hg w7 hbox hb; have n0_ := Aside0.mk (below_step (by repeat (first | (with_reducible first | exact HB.out | apply below_alloc | apply pw_below_drewN | apply below_drew1) | exact HB.out)) hb); have n1_ := Aside0.mk (hbox); have n2_ := Aside0.mk ((by rw [hg]; exact (below_size (by repeat (first | (with_reducible first | exact HB.out | apply below_alloc | apply pw_below_drewN | apply below_drew1) | exact HB.out))) : w.heap.size ≤ gb107)); have n3_ := Aside0.mk ((by rw [hg]; exact (below_size (by repeat (first | (with_reducible first | exact HB.out | apply below_alloc | apply pw_below_drewN | apply below_drew1) | exact HB.out))) : w.heap.size ≤ gb107)); clear HB; have HB := n0_; have BK107 := n1_; have GW107 := n2_; have GE107 := n3_; clear n0_ n1_ n2_ n3_; clear hb hbox hg; have hcz8_0 : w7.cell? ⟨gb107, 0, none⟩ = some (.int .i64 a0_0) := (blk_cell BK107.out 0).trans rfl; have hcz8_1 : w7.cell? ⟨gb107, 1, none⟩ = some (.int .i64 a0_1) := (blk_cell BK107.out 1).trans rfl; have hfz8_0 := blk_frozen BK107.out 0; have hfz8_1 := blk_frozen BK107.out 1))
      go_ret
      exact ⟨by first | rfl | (simp [errW_none, errW_some] <;> rfl) | (simp [*, errW_none, errW_some] <;> rfl), by repeat (first | (with_reducible first | exact HB.out | apply below_alloc | apply pw_below_drewN | apply below_drew1 | refine below_set ?_ GE107.out) | exact HB.out)⟩
  · rw [if_neg c3] at H
    have c3b0 : decide (0 ≤ a0_0) = false := decide_eq_false c3
    clear c3
    obtain rfl := Option.some.inj H
    go_enter Try.func53, Try.ntmps53
    go_wp2_with (first | ((with_reducible refine gate_dst (N := 2) rfl ?_); refine box_event ?hg (N := 2) ?hd (cs := #[.int .i64 a0_0, .int .i64 a0_1]) (t := 49) ?hr ?_; (case hd => rfl); (case hg => rfl); (case hr => first | (go_simp; done) | (go_simp; rfl)); intro gb107 hg w9 hbox hb; have n0_ := Aside0.mk (below_step (by repeat (first | (with_reducible first | exact HB.out | apply below_alloc | apply pw_below_drewN | apply below_drew1) | exact HB.out)) hb); have n1_ := Aside0.mk (hbox); have n2_ := Aside0.mk ((by rw [hg]; exact (below_size (by repeat (first | (with_reducible first | exact HB.out | apply below_alloc | apply pw_below_drewN | apply below_drew1) | exact HB.out))) : w.heap.size ≤ gb107)); have n3_ := Aside0.mk ((by rw [hg]; exact (below_size (by repeat (first | (with_reducible first | exact HB.out | apply below_alloc | apply pw_below_drewN | apply below_drew1) | exact HB.out))) : w.heap.size ≤ gb107)); clear HB; have HB := n0_; have BK107 := n1_; have GW107 := n2_; have GE107 := n3_; clear n0_ n1_ n2_ n3_; clear hb hbox hg; have hcz10_0 : w9.cell? ⟨gb107, 0, none⟩ = some (.int .i64 a0_0) := (blk_cell BK107.out 0).trans rfl; have hcz10_1 : w9.cell? ⟨gb107, 1, none⟩ = some (.int .i64 a0_1) := (blk_cell BK107.out 1).trans rfl; have hfz10_0 := blk_frozen BK107.out 0; have hfz10_1 := blk_frozen BK107.out 1))
    go_ret
    exact ⟨by first | rfl | (simp [errW_none, errW_some] <;> rfl) | (simp [*, errW_none, errW_some] <;> rfl), by repeat (first | (with_reducible first | exact HB.out | apply below_alloc | apply pw_below_drewN | apply below_drew1 | refine below_set ?_ GE107.out) | exact HB.out)⟩

end Go.Proofs.Ytfllpoonfhiipaa.Q

set_option linter.unusedVariables false
set_option linter.unusedSimpArgs false
namespace Go.Proofs.Ytfllpoonfhiipaa.P
open Go.RowKit Go.Proofs.Ytfllpoonfhiipaa Go.Proofs.Ytfllpoonfhiipaa.Rope Go.Proofs.YtfllpoonfhiipaaW.PrintWords Go.Proofs.YtfllpoonfhiipaaW.PrintLast Go.Proofs.YtfllpoonfhiipaaW.PrintMore
attribute [local go_sem] max2_int min2_int max_two min_two max_three min_three max_four min_four
abbrev QS := Q.S49
def qs (l : List (Int × Int)) : List QS := l.map fun x => ⟨x.1, x.2⟩
theorem lines_l0 (s : ByteArray) (hz : s.size ≤ 1000000) : ∀ (r : List UInt8) (p f : Nat) (acc : List QS), s.data.toList.drop p = r → p ≤ s.size → acc.length ≤ p → Ev (fun k => Q.marginaliaref01_Lines.l0 k s acc (f : Int) (p : Int)) (acc ++ qs (sl r f p)) := by
  have hsz := Ut.size_data s
  intro r
  induction r with
  | nil =>
    intro p f acc hd hp hl
    have : s.data.toList.length ≤ p := by
      rcases Nat.lt_or_ge p s.data.toList.length with h | h
      · rw [List.drop_eq_getElem_cons h] at hd; cases hd
      · exact h
    have e : p = s.size := by omega
    subst e
    refine Ev.shift ?_
    simp only [Q.marginaliaref01_Lines.l0]
    exact Ev.neg (by omega) (Ev.pos (by omega) (Ev.now _))
  | cons c r ih =>
    intro p f acc hd hp hl
    have hlt : p < s.data.toList.length := by
      rcases Nat.lt_or_ge p s.data.toList.length with h | h
      · exact h
      · rw [List.drop_of_length_le h] at hd; cases hd
    rw [List.drop_eq_getElem_cons hlt] at hd
    injection hd with h1 h2
    have hb := bt_get s p hlt
    rw [h1] at hb
    refine Ev.shift ?_
    simp only [Q.marginaliaref01_Lines.l0, sl]
    rw [w64 (n := (p : Int) + 1) (by omega) (by omega)]
    refine Ev.pos (by omega) (Ev.pos (by omega) ?_)
    by_cases h : c = 10
    · rw [if_pos h]
      refine Ev.pos (by rw [hb, h]; rfl) (Ev.pos (by omega) ?_)
      have := ih (p + 1) (p + 1) (acc ++ [⟨(f : Int), (p : Int)⟩]) h2 (by omega) (by simp; omega)
      rw [List.append_assoc] at this
      exact this
    · rw [if_neg h]
      refine Ev.neg (fun q => h (UInt8.toNat_inj.1 ?_)) (ih (p + 1) f acc h2 (by omega) (by omega))
      rw [hb] at q
      have : (10 : UInt8).toNat = 10 := rfl
      omega
theorem rLines_ev (s : ByteArray) (hz : s.size ≤ 1000000) : Ev (fun k => Q.marginaliaref01_Lines.f k s) (qs (lns s.data.toList)) := by
  unfold Q.marginaliaref01_Lines.f
  exact lines_l0 s hz s.data.toList 0 0 [] rfl (Nat.zero_le _) (Nat.le_refl _)
theorem isSpan_eq (a b z : Int) : Q.marginaliaref01_IsSpan.f a b z = some (decide (0 ≤ a ∧ a ≤ b ∧ b ≤ z)) := by
  unfold Q.marginaliaref01_IsSpan.f
  by_cases h1 : 0 ≤ a
  · rw [if_pos (show a ≥ 0 from h1)]
    by_cases h2 : a ≤ b
    · rw [if_pos h2]; simp [h1, h2]
    · rw [if_neg h2]; simp [h2]
  · rw [if_neg (show ¬ a ≥ 0 from h1)]; simp [h1]
theorem txt_length' (ps : List ByteArray) : (ba (txt ps)).size = tot ps := by rw [ba_size, txt_length]
theorem tot_cutP (a b : Int) (ha : 0 ≤ a) (ps : List ByteArray) : tot (cutP a b 0 ps) ≤ tot ps := by
  rw [← txt_length, Pure.txt_cutP a b ha ps 0 (Int.le_refl _), ← txt_length ps]
  simp only [List.length_drop, List.length_take]
  omega
theorem slice_txt (a b : Int) (ha : 0 ≤ a) (ps : List ByteArray) (s : ByteArray) (hS : s = ba (txt ps)) : (⟨(txt (cutP a b 0 ps)).toArray⟩ : ByteArray) = s.extract a.toNat b.toNat := by
  rw [Pure.txt_cut0 a b ha, hS]
  exact list_ba _
set_option maxHeartbeats 8000000 in
set_option maxRecDepth 100000 in
theorem shows_ok (v : Value) (r : Rp) (a b line : Int) (w : World) (h : IsRp w v r) (hs : tot r.ps ≤ 20000) (hn : r.ps.length ≤ 1000000) (s : ByteArray) (hS : s = ba (txt r.ps)) :
    Calls Try.prog 37 #[v, .string s, .agg #[.int .i64 a, .int .i64 b], .int .i64 line] w fun e w' => e = .returned (.bool true) ∧ Below w.heap.size w w' := by
  have hz : s.size = tot r.ps := by rw [hS]; exact txt_length' _
  have hlist : s.data.toList = txt r.ps := by rw [hS]; exact ba_list _
  have hu := Try.underlying49
  obtain ⟨W1, hW1⟩ : ∃ W1, W1 = w.alloc (.cells #[.int .i64 a, .int .i64 b] 49) := ⟨_, rfl⟩
  have hB0 : Below w.heap.size w W1 := by rw [hW1]; exact (Below.refl _ _).alloc (Nat.le_refl _) _
  have BK : Aside0 (W1.heap[w.heap.size]? = some (.cells #[.int .i64 a, .int .i64 b] 49 (0, 0))) := ⟨by rw [hW1]; exact alloc_at _ _⟩
  obtain ⟨ls, hls⟩ : ∃ ls, ls = qs (lns s.data.toList) := ⟨_, rfl⟩
  obtain ⟨K, hK⟩ := rLines_ev s (by omega)
  have hk := hK K (Nat.le_refl _)
  rw [← hls] at hk
  have HLs := Aside0.mk (Q.marginaliaref01_Lines.calls K s ls W1 hk)
  have HT : Aside0 (∀ W, Below w.heap.size w W → Calls Try.prog 33 #[v] W fun e w' => e = .returned (.string s) ∧ Below W.heap.size W w') := ⟨fun W hb => (Text_ok v r W (h.below hb) (by omega)).mono (fun e w' ⟨h1, h2⟩ => ⟨by rw [h1, hS]; rfl, h2⟩)⟩
  have HL : Aside0 (∀ W, Below w.heap.size w W → Calls Try.prog 36 #[v] W fun e w' => e = .returned (.int .i64 (s.size : Int)) ∧ w' = W) := ⟨fun W hb => (Len_ok v r W (h.below hb)).mono (fun e w' ⟨h1, h2⟩ => ⟨by rw [h1, hz], h2⟩)⟩
  have HN : Aside0 (∀ W, Below w.heap.size w W → Calls Try.prog 40 #[v] W fun e w' => e = .returned (.int .i64 (ls.length : Int)) ∧ w' = W) := ⟨fun W hb => (Lines_ok v r W (h.below hb) (by omega)).mono (fun e w' ⟨h1, h2⟩ => ⟨by rw [h1, feeds_lns, hls, hlist]; simp [qs], h2⟩)⟩
  obtain ⟨g, u, hv, _⟩ := h.open
  have HI := Aside0.mk h
  have HW := Aside0.mk hW1
  have HB1 := Aside0.mk hB0
  have HS := Aside0.mk hS
  have HD := Aside0.mk (And.intro hls hlist)
  have HZ := Aside0.mk hz
  subst hv
  have e2 : ((s.size : Int) != (s.size : Int)) = false := by simp
  have e3 : ((ls.length : Int) != (ls.length : Int)) = false := by simp
  clear h hS hW1 hB0 hK hk hls hlist hz
  go_enter Try.func37, Try.ntmps37
  go_upto_region 1 with fail
  rw [← HW.out]
  go_upto_region 2 with (go_at_call 52; refine HLs.out.mono ?_; rintro e w2 ⟨v2, rfl, hr2, hb2⟩; obtain ⟨A2, c2, e2, hc2, _⟩ := Kd.R_reads hr2; subst e2; have HR2 := Aside0.mk hr2; have BK2 := Aside0.mk ((hb2.block _ (Rope.blk_lt BK.out)).trans BK.out); have HB2 := Aside0.mk (Kx.below_step HB1.out hb2); clear hr2 hb2)
  go_upto_region 4 with (first | (go_at_call 33; refine (HT.out _ HB2.out).mono ?_; rintro e w3 ⟨rfl, hb3⟩; have HX3 := Aside0.mk hb3; have HB3 := Aside0.mk (Kx.below_step HB2.out hb3); clear hb3) | (go_at_call 36; refine (HL.out _ HB3.out).mono ?_; rintro e w4 ⟨rfl, rfl⟩) | (go_at_call 40; refine (HN.out _ HB3.out).mono ?_; rintro e w5 ⟨rfl, rfl⟩))
  have BK5 := Aside0.mk ((HX3.out.block _ (Rope.blk_lt BK2.out)).trans BK2.out)
  have p0 : w5.cell? ⟨w.heap.size, 0, none⟩ = some (.int .i64 a) := Lib.cell_of_heap BK5.out 0
  have p1 : w5.cell? ⟨w.heap.size, 1, none⟩ = some (.int .i64 b) := Lib.cell_of_heap BK5.out 1
  by_cases hsp : 0 ≤ a ∧ a ≤ b ∧ b ≤ (s.size : Int)
  · have HC := Aside0.mk (Slice_ok _ r a b w5 (HI.out.below HB3.out) (by omega) hn hsp.1 hsp.2.1 (by have := HZ.out; omega) (by have := tot_cutP a b hsp.1 r.ps; omega))
    rw [slice_txt a b hsp.1 r.ps s HS.out] at HC
    have HIs := Aside0.mk (fun W => Q.marginaliaref01_IsSpan.calls a b (s.size : Int) true W (by rw [isSpan_eq]; simp [hsp]))
    obtain ⟨ha, hab, hbz⟩ := hsp
    go_upto_region 5 with (go_at_call 38; refine HC.out.mono ?_; rintro e w6 ⟨rfl, hb6⟩; have HX6 := Aside0.mk (Kx.below_step HX3.out hb6); have HB6 := Aside0.mk (Kx.below_step HB3.out hb6); clear hb6)
    clear p0 p1
    have BK6 := Aside0.mk ((HX6.out.block _ (Rope.blk_lt BK2.out)).trans BK2.out)
    have p0 : w6.cell? ⟨w.heap.size, 0, none⟩ = some (.int .i64 a) := Lib.cell_of_heap BK6.out 0
    have p1 : w6.cell? ⟨w.heap.size, 1, none⟩ = some (.int .i64 b) := Lib.cell_of_heap BK6.out 1
    go_upto_region 8 with (go_at_call 53; refine (HIs.out _).mono ?_; rintro e w7 ⟨rfl, hb7⟩; have HX7 := Aside0.mk (Kx.below_step HX6.out hb7); have HB7 := Aside0.mk (Kx.below_step HB6.out hb7); clear hb7)
    clear p0 p1
    have BK7 := Aside0.mk ((HX7.out.block _ (Rope.blk_lt BK2.out)).trans BK2.out)
    have p0 : w7.cell? ⟨w.heap.size, 0, none⟩ = some (.int .i64 a) := Lib.cell_of_heap BK7.out 0
    have p1 : w7.cell? ⟨w.heap.size, 1, none⟩ = some (.int .i64 b) := Lib.cell_of_heap BK7.out 1
    go_upto_region 10 with fail
    clear p0 p1
    have HI7 := Aside0.mk (HI.out.below HB7.out)
    by_cases hln : 0 ≤ line ∧ line < (ls.length : Int)
    · obtain ⟨l0, l1⟩ := hln
      have hlt : line.toNat < (lns s.data.toList).length := by have := HD.out.1; rw [this] at l1; simp only [qs, List.length_map] at l1; omega
      obtain ⟨x, hx⟩ : ∃ x, (lns s.data.toList)[line.toNat]? = some x := ⟨_, List.getElem?_eq_getElem hlt⟩
      have hLn := Line_ok _ r line w7 HI7.out (by omega)
      have hli := line_in (txt r.ps) line.toNat x (by rw [← HD.out.2]; exact hx)
      rw [show ((line.toNat : Nat) : Int) = line by omega] at hli
      rw [hli] at hLn
      have HLn := Aside0.mk hLn
      have hrd : Q.rd_T49 ls line = ⟨x.1, x.2⟩ := by
        unfold Q.rd_T49
        rw [List.getD_eq_getElem?_getD, HD.out.1, qs, List.getElem?_map, hx]
        rfl
      obtain ⟨ad, e2, hx0, hx1⟩ := Q.at_T49 (Kd.R_reads' HR2.out).2.2 line l0 l1
      rw [hrd] at hx0 hx1
      cases e2
      have hy0 := (HX7.out.cell (World.block_lt_of_cell? w2 _ hx0)).trans hx0
      have hy1 := (HX7.out.cell (World.block_lt_of_cell? w2 _ hx1)).trans hx1
      have d1 : decide (line < 0) = false := decide_eq_false (by omega)
      have d2 : decide (line ≥ (ls.length : Int)) = false := decide_eq_false (by omega)
      have hmax : ls.length ≤ 9223372036854775807 := (Kd.R_reads' HR2.out).2.2.2.1
      clear hLn hli hx hx0 hx1 hrd hlt
      obtain ⟨x1, x2⟩ := x
      simp only at *
      go_upto_region 11 with (go_at_call 39; refine HLn.out.mono ?_; rintro e w8 ⟨rfl, hb8⟩; have HB8 := Aside0.mk (Kx.below_step HB7.out hb8); have HX8 := Aside0.mk hb8; clear hb8)
      have hB9 := (Below.refl w8.heap.size w8).alloc (Nat.le_refl _) (.cells #[.int .i64 x1, .int .i64 x2] 49)
      have hz0 := (hB9.cell (World.block_lt_of_cell? w8 _ ((HX8.out.cell (World.block_lt_of_cell? w7 _ hy0)).trans hy0))).trans ((HX8.out.cell (World.block_lt_of_cell? w7 _ hy0)).trans hy0)
      have hz1 := (hB9.cell (World.block_lt_of_cell? w8 _ ((HX8.out.cell (World.block_lt_of_cell? w7 _ hy1)).trans hy1))).trans ((HX8.out.cell (World.block_lt_of_cell? w7 _ hy1)).trans hy1)
      have HB9 := Aside0.mk (Kx.below_step HB8.out hB9)
      have BK9 := Aside0.mk (alloc_at w8 (.cells #[.int .i64 x1, .int .i64 x2] 49))
      clear hB9 hy0 hy1
      generalize w8.alloc (.cells #[.int .i64 x1, .int .i64 x2] 49) = w9 at *
      have r0 : w9.cell? ⟨w8.heap.size, 0, none⟩ = some (.int .i64 x1) := Lib.cell_of_heap BK9.out 0
      have r1 : w9.cell? ⟨w8.heap.size, 1, none⟩ = some (.int .i64 x2) := Lib.cell_of_heap BK9.out 1
      generalize w8.heap.size = g8 at *
      go_wp2_with fail
      go_quiet (fail)
      go_wp2_with fail
      go_ret
      exact ⟨rfl, pw_below_drewN HB9.out _⟩
    · have hLn := Line_ok _ r line w7 HI7.out (by omega)
      have hli := line_out (txt r.ps) line (by rw [← HD.out.2]; have h2 : ls.length = (lns s.data.toList).length := (congrArg List.length HD.out.1).trans (List.length_map ..); omega)
      rw [hli] at hLn
      have HLn := Aside0.mk hLn
      clear hLn hli
      by_cases l0 : line < 0
      · have d1 : decide (line < 0) = true := decide_eq_true l0
        go_wp2_with (go_at_call 39; refine HLn.out.mono ?_; rintro e w8 ⟨rfl, hb8⟩; have HB8 := Aside0.mk (Kx.below_step HB7.out hb8); have HX8 := Aside0.mk hb8; clear hb8)
        go_ret
        exact ⟨rfl, HB8.out.alloc HB8.out.size _⟩
      · have d1 : decide (line < 0) = false := decide_eq_false l0
        have d2 : decide (line ≥ (ls.length : Int)) = true := decide_eq_true (by omega)
        go_wp2_with (go_at_call 39; refine HLn.out.mono ?_; rintro e w8 ⟨rfl, hb8⟩; have HB8 := Aside0.mk (Kx.below_step HB7.out hb8); have HX8 := Aside0.mk hb8; clear hb8)
        go_ret
        exact ⟨rfl, HB8.out.alloc HB8.out.size _⟩
  · have HC := Aside0.mk (Slice_bad _ r a b w5 (HI.out.below HB3.out) (by have := HZ.out; omega))
    have HIs := Aside0.mk (fun W => Q.marginaliaref01_IsSpan.calls a b (s.size : Int) false W (by rw [isSpan_eq]; simp only [hsp, decide_false]))
    go_upto_region 5 with (go_at_call 38; refine HC.out.mono ?_; rintro e w6 ⟨rfl, hb6⟩; have HX6 := Aside0.mk (Kx.below_step HX3.out hb6); have HB6 := Aside0.mk (Kx.below_step HB3.out hb6); clear hb6)
    clear p0 p1
    have BK6 := Aside0.mk ((HX6.out.block _ (Rope.blk_lt BK2.out)).trans BK2.out)
    have p0 : w6.cell? ⟨w.heap.size, 0, none⟩ = some (.int .i64 a) := Lib.cell_of_heap BK6.out 0
    have p1 : w6.cell? ⟨w.heap.size, 1, none⟩ = some (.int .i64 b) := Lib.cell_of_heap BK6.out 1
    go_upto_region 10 with (go_at_call 53; refine (HIs.out _).mono ?_; rintro e w7 ⟨rfl, hb7⟩; have HX7 := Aside0.mk (Kx.below_step HX6.out hb7); have HB7 := Aside0.mk (Kx.below_step HB6.out hb7); clear hb7)
    clear p0 p1
    have HI7 := Aside0.mk (HI.out.below HB7.out)
    by_cases hln : 0 ≤ line ∧ line < (ls.length : Int)
    · obtain ⟨l0, l1⟩ := hln
      have hlt : line.toNat < (lns s.data.toList).length := by have := HD.out.1; rw [this] at l1; simp only [qs, List.length_map] at l1; omega
      obtain ⟨x, hx⟩ : ∃ x, (lns s.data.toList)[line.toNat]? = some x := ⟨_, List.getElem?_eq_getElem hlt⟩
      have hLn := Line_ok _ r line w7 HI7.out (by omega)
      have hli := line_in (txt r.ps) line.toNat x (by rw [← HD.out.2]; exact hx)
      rw [show ((line.toNat : Nat) : Int) = line by omega] at hli
      rw [hli] at hLn
      have HLn := Aside0.mk hLn
      have hrd : Q.rd_T49 ls line = ⟨x.1, x.2⟩ := by
        unfold Q.rd_T49
        rw [List.getD_eq_getElem?_getD, HD.out.1, qs, List.getElem?_map, hx]
        rfl
      obtain ⟨ad, e2, hx0, hx1⟩ := Q.at_T49 (Kd.R_reads' HR2.out).2.2 line l0 l1
      rw [hrd] at hx0 hx1
      cases e2
      have hy0 := (HX7.out.cell (World.block_lt_of_cell? w2 _ hx0)).trans hx0
      have hy1 := (HX7.out.cell (World.block_lt_of_cell? w2 _ hx1)).trans hx1
      have d1 : decide (line < 0) = false := decide_eq_false (by omega)
      have d2 : decide (line ≥ (ls.length : Int)) = false := decide_eq_false (by omega)
      have hmax : ls.length ≤ 9223372036854775807 := (Kd.R_reads' HR2.out).2.2.2.1
      clear hLn hli hx hx0 hx1 hrd hlt
      obtain ⟨x1, x2⟩ := x
      simp only at *
      go_upto_region 11 with (go_at_call 39; refine HLn.out.mono ?_; rintro e w8 ⟨rfl, hb8⟩; have HB8 := Aside0.mk (Kx.below_step HB7.out hb8); have HX8 := Aside0.mk hb8; clear hb8)
      have hB9 := (Below.refl w8.heap.size w8).alloc (Nat.le_refl _) (.cells #[.int .i64 x1, .int .i64 x2] 49)
      have hz0 := (hB9.cell (World.block_lt_of_cell? w8 _ ((HX8.out.cell (World.block_lt_of_cell? w7 _ hy0)).trans hy0))).trans ((HX8.out.cell (World.block_lt_of_cell? w7 _ hy0)).trans hy0)
      have hz1 := (hB9.cell (World.block_lt_of_cell? w8 _ ((HX8.out.cell (World.block_lt_of_cell? w7 _ hy1)).trans hy1))).trans ((HX8.out.cell (World.block_lt_of_cell? w7 _ hy1)).trans hy1)
      have HB9 := Aside0.mk (Kx.below_step HB8.out hB9)
      have BK9 := Aside0.mk (alloc_at w8 (.cells #[.int .i64 x1, .int .i64 x2] 49))
      clear hB9 hy0 hy1
      generalize w8.alloc (.cells #[.int .i64 x1, .int .i64 x2] 49) = w9 at *
      have r0 : w9.cell? ⟨w8.heap.size, 0, none⟩ = some (.int .i64 x1) := Lib.cell_of_heap BK9.out 0
      have r1 : w9.cell? ⟨w8.heap.size, 1, none⟩ = some (.int .i64 x2) := Lib.cell_of_heap BK9.out 1
      generalize w8.heap.size = g8 at *
      go_wp2_with fail
      go_quiet (fail)
      go_wp2_with fail
      go_ret
      exact ⟨rfl, pw_below_drewN HB9.out _⟩
    · have hLn := Line_ok _ r line w7 HI7.out (by omega)
      have hli := line_out (txt r.ps) line (by rw [← HD.out.2]; have h2 : ls.length = (lns s.data.toList).length := (congrArg List.length HD.out.1).trans (List.length_map ..); omega)
      rw [hli] at hLn
      have HLn := Aside0.mk hLn
      clear hLn hli
      by_cases l0 : line < 0
      · have d1 : decide (line < 0) = true := decide_eq_true l0
        go_wp2_with (go_at_call 39; refine HLn.out.mono ?_; rintro e w8 ⟨rfl, hb8⟩; have HB8 := Aside0.mk (Kx.below_step HB7.out hb8); have HX8 := Aside0.mk hb8; clear hb8)
        go_ret
        exact ⟨rfl, HB8.out.alloc HB8.out.size _⟩
      · have d1 : decide (line < 0) = false := decide_eq_false l0
        have d2 : decide (line ≥ (ls.length : Int)) = true := decide_eq_true (by omega)
        go_wp2_with (go_at_call 39; refine HLn.out.mono ?_; rintro e w8 ⟨rfl, hb8⟩; have HB8 := Aside0.mk (Kx.below_step HB7.out hb8); have HX8 := Aside0.mk hb8; clear hb8)
        go_ret
        exact ⟨rfl, HB8.out.alloc HB8.out.size _⟩
end Go.Proofs.Ytfllpoonfhiipaa.P

set_option linter.unusedVariables false
namespace Go.Proofs.Ytfllpoonfhiipaa.Pure
open Go.RowKit Go.Proofs.Ytfllpoonfhiipaa Go.Proofs.Ytfllpoonfhiipaa.P Go.Proofs.Ytfllpoonfhiipaa.Rope Go.Proofs.YtfllpoonfhiipaaW.PrintWords Go.Proofs.YtfllpoonfhiipaaW.PrintLast Go.Proofs.YtfllpoonfhiipaaW.PrintMore
def hit (a b p z : Int) : Prop := (if a - p < 0 then 0 else a - p) < (if z < b - p then z else b - p)
instance (a b p z : Int) : Decidable (hit a b p z) := by unfold hit; infer_instance
theorem hit_iff (a b p z : Int) : hit a b p z ↔ 0 < z ∧ p < b ∧ a < b ∧ a < p + z := by
  unfold hit
  split <;> split <;> omega
/-- No piece is empty. -/
def Full (ps : List ByteArray) : Prop := ∀ s ∈ ps, 0 < s.size
theorem cutP_full (a b : Int) : ∀ (ps : List ByteArray) (p : Int), Full (cutP a b p ps)
  | [], _ => by simp [cutP, Full]
  | s :: r, p => by
    have ih := cutP_full a b r (p + s.size)
    simp only [cutP]
    by_cases h : hit a b p s.size
    · have h' := h
      unfold hit at h'
      rw [if_pos h']
      intro x hx
      rcases List.mem_cons.1 hx with rfl | hx
      · rw [ByteArray.size_extract]
        have := (hit_iff a b p s.size).1 h
        split <;> split <;> omega
      · exact ih x hx
    · unfold hit at h
      rw [if_neg h]
      exact ih
theorem editP_full (ps : List ByteArray) (n : Int) : ∀ (l : List Ed) (p : Int), Full (editP ps n p l)
  | [], p => cutP_full p n ps 0
  | e :: r, p => by
    intro x hx
    simp only [editP] at hx
    rcases List.mem_append.1 hx with hx | hx
    · rcases List.mem_append.1 hx with hx | hx
      · exact cutP_full p e.f0 ps 0 x hx
      · by_cases hz : e.f2.size = 0
        · rw [if_pos hz] at hx; cases hx
        · rw [if_neg hz] at hx
          rw [List.mem_singleton.1 hx]
          omega
    · exact editP_full ps n r e.f1 x hx
theorem full_len {ps : List ByteArray} (h : Full ps) : ps.length ≤ tot ps ∧ min 1 (tot ps) ≤ ps.length := by
  induction ps with
  | nil => simp [tot]
  | cons s r ih =>
    have h1 := ih (fun x hx => h x (List.mem_cons_of_mem _ hx))
    have h2 := h s List.mem_cons_self
    rw [tot_cons, List.length_cons]
    omega
/-- What an edit that is right makes. -/
theorem edit_tot (ps : List ByteArray) (l : List Ed) (h : chk (tot ps) l = 0) : tot (editP ps (tot ps) 0 l) ≤ 20000 ∧ txt (editP ps (tot ps) 0 l) = app (ba (txt ps)) 0 l := by
  obtain ⟨h1, h2, h3, h4⟩ := chk_ok h
  have e := txt_editP ps l 0 h3 (by omega)
  have hz := tot_txt ps
  have hl := app_length (ba (txt ps)) l 0 (by rw [← hz]; exact h3) (by omega) (by omega)
  have := congrArg List.length e
  rw [txt_length] at this
  exact ⟨by omega, e⟩
end Go.Proofs.Ytfllpoonfhiipaa.Pure

set_option linter.unusedVariables false
namespace Go.Proofs.Ytfllpoonfhiipaa.Pure
open Go.RowKit Go.Proofs.Ytfllpoonfhiipaa Go.Proofs.Ytfllpoonfhiipaa.P Go.Proofs.YtfllpoonfhiipaaW.PrintWords Go.Proofs.YtfllpoonfhiipaaW.PrintLast Go.Proofs.YtfllpoonfhiipaaW.PrintMore
theorem tot_one (s : ByteArray) : Rope.tot (Rope.one s) = s.size := by
  unfold Rope.one Rope.tot
  split <;> simp_all
end Go.Proofs.Ytfllpoonfhiipaa.Pure

set_option linter.unusedVariables false
namespace Go.Proofs.Ytfllpoonfhiipaa.Pure
open Go.RowKit Go.Proofs.Ytfllpoonfhiipaa Go.Proofs.Ytfllpoonfhiipaa.P Go.Proofs.YtfllpoonfhiipaaW.PrintWords Go.Proofs.YtfllpoonfhiipaaW.PrintLast Go.Proofs.YtfllpoonfhiipaaW.PrintMore
attribute [local go_sem] max2_int min2_int max_two min_two max_three min_three max_four min_four
theorem one_full (s : ByteArray) : Full (Rope.one s) := by
  unfold Rope.one
  split
  · intro x hx; cases hx
  · intro x hx
    rw [List.mem_singleton.1 hx]
    omega
theorem row_at {W : World} {A1 : Option Addr} {a1 : List (List Ed)} (h : Kd.C (Kd.slice 47 k47) W A1 a1.length a1) (i : Nat) (hi : i < a1.length) :
    ∃ ad A c, A1 = some ad ∧ W.cell? (ad.add i) = some (.slice A a1[i].length c) ∧ a1[i].length ≤ c ∧ Kd.C k47 W A a1[i].length a1[i] := by
  obtain ⟨ad, cs, e, _, hK, hc⟩ := Kd.C_get h [] (i : Int) (by omega) (by omega)
  have e1 : a1.getD (i : Int).toNat [] = a1[i] := by simp [List.getD_eq_getElem?_getD, hi]
  rw [e1] at hK
  obtain ⟨A, c, rfl, h1, h2⟩ := hK
  refine ⟨ad, A, c, e, ?_, h1, h2⟩
  have := hc 0 _ rfl
  simpa [Kd.slice] using this
end Go.Proofs.Ytfllpoonfhiipaa.Pure

set_option linter.unusedVariables false
set_option linter.unusedSimpArgs false
namespace Go.Proofs.Ytfllpoonfhiipaa.Pure
open Go.RowKit Go.Proofs.Ytfllpoonfhiipaa Go.Proofs.Ytfllpoonfhiipaa.P Go.Proofs.Ytfllpoonfhiipaa.Rope Go.Proofs.YtfllpoonfhiipaaW.PrintWords Go.Proofs.YtfllpoonfhiipaaW.PrintLast Go.Proofs.YtfllpoonfhiipaaW.PrintMore
/-- A pointer, as it lies. -/
def kp : Kd Value where
  sz := 1
  E := []
  K := fun _ x cs => cs = [x] ∧ x.oneCell' = true
  M := fun _ _ _ x cs => cs = [x] ∧ x.oneCell' = true
  K_len := fun h => by rw [h.1]; rfl
  K_one := fun h u hu => by rw [h.1] at hu; rw [List.mem_singleton.mp hu]; exact h.2
  K_below := fun _ h => h
  K_of_M := fun h => h
  M_mono := fun _ h => h
  M_bound := fun h => h
  M_move := fun _ h => h
  M_lower := fun _ h => h
theorem infoPtr : (Try.prog.info? 52).map (fun i => (i.zero, i.size, i.bytes)) = some (some (.pointer none), 1, 8) := by kernel_rfl
theorem kd_lit {α : Type} (d : Kd α) {W : World} {base e : Nat} {xs : List α} {inner : List Value} (hrep : Reps (d.M W base (fun _ => True)) d.sz xs inner) (hbase : base ≤ W.heap.size) (hm : xs.length ≤ 1000) : d.R e (W.alloc (.cells inner.toArray e)) base (fun _ => True) (.slice (some ⟨W.heap.size, 0, none⟩) xs.length xs.length) xs := by
  refine ⟨fun _ _ => trivial, inner, ?_, ?_⟩
  · have h2 := World.ownsRow_lit (base := base) (e := e) (size := d.sz) W inner.toArray xs.length hbase (by unfold maxLen; omega) (by simpa using hrep.1)
    simpa using h2
  · refine hrep.imp_ (fun p c hp => d.M_mono (fun k hk => ⟨trivial, fun he => ?_⟩) (Kd.M_below (d.M_bound hp) (below_alloc (Below.refl _ _) _)))
    have h3 : k = W.heap.size := by simpa [Value.ownBlock] using he
    have := hk.2.2.1
    omega
theorem at_ptr {w : World} {A : Option Addr} {n : Nat} {xs : List Value} (h : Kd.C kp w A n xs) (i : Int) (h0 : 0 ≤ i) (h1 : i < n) : ∃ ad, A = some ad ∧ w.cell? (ad.add i.toNat) = some (xs.getD i.toNat (.pointer none)) := by
  obtain ⟨ad, c, e, _, hK, hc0⟩ := Kd.C_get h (.pointer none) i h0 h1
  obtain ⟨rfl, _⟩ := hK
  refine ⟨ad, e, ?_⟩
  have := hc0 0 _ rfl
  simpa [kp] using this
theorem at_str {w : World} {A : Option Addr} {n : Nat} {xs : List ByteArray} (h : Kd.C Kd.string w A n xs) (i : Int) (h0 : 0 ≤ i) (h1 : i < n) : ∃ ad, A = some ad ∧ w.cell? (ad.add i.toNat) = some (.string (xs.getD i.toNat ⟨#[]⟩)) := by
  obtain ⟨ad, c, e, _, hK, hc0⟩ := Kd.C_get h ⟨#[]⟩ i h0 h1
  have hK2 : c = [.string (xs.getD i.toNat ⟨#[]⟩)] := hK
  subst hK2
  refine ⟨ad, e, ?_⟩
  have h2 : w.cell? (ad.add (i.toNat * 1 + 0)) = some (.string (xs.getD i.toNat ⟨#[]⟩)) := hc0 0 _ rfl
  simpa using h2
abbrev Rps := List (Value × Rp)
/-- Each rope was made of the one before it. -/
def Ch (rs : Rps) : Prop := (∀ p, rs[0]? = some p → ∃ ps, p.2 = .base ps) ∧ ∀ j p q, rs[j]? = some p → rs[j + 1]? = some q → ∃ ps, q.2 = .step ps p.2
structure St (B : Nat) (w : World) (vr vt : Value) (ptrs : List Value) (ts : List ByteArray) (rs : Rps) : Prop where
  r : Kd.R kp 52 w B (fun _ => True) vr ptrs
  t : Kd.R Kd.string 9 w B (fun _ => True) vt ts
  p : ∀ q ∈ rs, IsRpF (fun k => some k ≠ vr.ownBlock ∧ some k ≠ vt.ownBlock) w q.1 q.2
  s : ∀ q ∈ rs, Full q.2.ps ∧ tot q.2.ps ≤ 20000
section
variable {B : Nat} {w w' : World} {vr vt v1 : Value} {ptrs ptrs' : List Value} {ts ts' : List ByteArray} {rs : Rps}
theorem St.below (h : St B w vr vt ptrs ts rs) (hb : Below w.heap.size w w') : St B w' vr vt ptrs ts rs := ⟨Kd.R_below h.r hb, Kd.R_below h.t hb, fun q hq => (h.p q hq).below hb, h.s⟩
theorem St.is (h : St B w vr vt ptrs ts rs) {j : Nat} {q : Value × Rp} (hq : rs[j]? = some q) : IsRp w q.1 q.2 ∧ Full q.2.ps ∧ tot q.2.ps ≤ 20000 := ⟨(h.p q (List.mem_of_getElem? hq)).is, h.s q (List.mem_of_getElem? hq)⟩
theorem own_ne {d1 d2 : Nat} {α β : Type} {ka : Kd α} {kb : Kd β} {xs : List α} {ys : List β} (hne : d1 ≠ d2) (hE : kb.E = []) (ha : Kd.R ka d1 w B (fun _ => True) vr xs) (hb : Kd.R kb d2 w B (fun _ => True) vt ys) (hg : w.grownBy w' vr.ownBlock) : Kd.R kb d2 w' B (fun _ => True) vt ys :=
  Kd.R_mono (Kd.R_step (Kd.R_bound hb) (fun k hk hlt => hg.block k hlt (fun e => by
    obtain ⟨_, _, _, q, hq, cells, hc⟩ := hk
    obtain ⟨cells2, hc2⟩ := Kd.R_typed ha k e.symm
    rw [hE] at hq
    have hq2 : q = d2 := List.mem_singleton.1 hq
    subst hq2
    rw [hc] at hc2
    injection hc2 with hc2
    injection hc2 with _ h2
    exact hne h2.symm))) (fun _ hk => hk.1)
theorem St.ptr (h : St B w vr vt ptrs ts rs) (ho : Kd.R kp 52 w' B (fun _ => True) v1 ptrs') (hg : w.grownBy w' vr.ownBlock) (hat : v1.ownBlock = vr.ownBlock ∨ ∃ b, v1.ownBlock = some b ∧ w.heap.size ≤ b) : St B w' v1 vt ptrs' ts rs :=
  ⟨ho, own_ne (by decide) rfl h.r h.t hg, fun q hq => (h.p q hq).move (fun k hk hlt => ⟨hg.block k hlt hk.1, by
    refine ⟨?_, hk.2⟩
    rcases hat with e | ⟨b, e, hb⟩
    · rw [e]; exact hk.1
    · rw [e]; intro q; injection q with q; omega⟩), h.s⟩
theorem St.tx (h : St B w vr vt ptrs ts rs) (ho : Kd.R Kd.string 9 w' B (fun _ => True) v1 ts') (hg : w.grownBy w' vt.ownBlock) (hat : v1.ownBlock = vt.ownBlock ∨ ∃ b, v1.ownBlock = some b ∧ w.heap.size ≤ b) : St B w' vr v1 ptrs ts' rs :=
  ⟨own_ne (by decide) rfl h.t h.r hg, ho, fun q hq => (h.p q hq).move (fun k hk hlt => ⟨hg.block k hlt hk.2, by
    refine ⟨hk.1, ?_⟩
    rcases hat with e | ⟨b, e, hb⟩
    · rw [e]; exact hk.2
    · rw [e]; intro q; injection q with q; omega⟩), h.s⟩
/-- A new rope, made of one that is there. -/
theorem St.more (h : St B w vr vt ptrs ts rs) {W : World} (hW : Below w.heap.size w W) {g : Nat} {ps : List ByteArray} {q : Value × Rp} (hq : q ∈ rs) (hl : LieF (fun k => w.heap.size ≤ k) W g ps q.1) (hf : Full ps) (ht : tot ps ≤ 20000) : St B W vr vt ptrs ts (rs ++ [(.pointer (some ⟨g, 0, none⟩), .step ps q.2)]) := by
  have h2 := h.below hW
  refine ⟨h2.r, h2.t, fun x hx => ?_, fun x hx => ?_⟩
  · rcases List.mem_append.mp hx with y | y
    · exact h2.p x y
    · rw [List.mem_singleton.mp y]
      refine ⟨g, q.1, rfl, hl.move (fun k hk hlt => ⟨rfl, ?_, ?_⟩), h2.p q hq⟩
      · intro e
        have := Kd.R_lt h.r k e.symm
        omega
      · intro e
        have := Kd.R_lt h.t k e.symm
        omega
  · rcases List.mem_append.mp hx with y | y
    · exact h2.s x y
    · rw [List.mem_singleton.mp y]
      exact ⟨hf, ht⟩
end
theorem Ch.snoc {rs : Rps} (h : Ch rs) {q p : Value × Rp} {ps : List ByteArray} (hq : rs[rs.length - 1]? = some q) (hp : p.2 = .step ps q.2) : Ch (rs ++ [p]) := by
  have hlt := (List.getElem?_eq_some_iff.mp hq).1
  refine ⟨fun x hx => ?_, fun j x y hx hy => ?_⟩
  · rw [List.getElem?_append_left (by omega)] at hx
    exact h.1 x hx
  · have hj := (List.getElem?_eq_some_iff.mp hy).1
    rw [List.length_append, List.length_singleton] at hj
    by_cases e : j + 1 < rs.length
    · rw [List.getElem?_append_left (by omega)] at hx hy
      exact h.2 j x y hx hy
    · have e2 : j + 1 = rs.length := by omega
      rw [List.getElem?_append_left (by omega)] at hx
      rw [e2, List.getElem?_append_right (Nat.le_refl _), Nat.sub_self] at hy
      injection hy with hy
      rw [show j = rs.length - 1 by omega, hq] at hx
      injection hx with hx
      subst hx hy
      exact ⟨ps, hp⟩
theorem txt_one' (s : ByteArray) : ba (txt (one s)) = s := by
  unfold one
  split
  · rename_i h
    have h1 : s.data.toList = [] := List.length_eq_zero_iff.mp (by rw [Ut.size_data]; exact h)
    rw [← list_ba s, h1]
    rfl
  · simp only [txt, List.map_cons, List.map_nil, List.flatten_cons, List.flatten_nil, List.append_nil]
    exact list_ba s
theorem St.at {B : Nat} {w : World} {A A' : Option Addr} {n c c' : Nat} {rs : Rps} (h : St B w (.slice A n c) (.slice A' n c') (rs.map Prod.fst) (rs.map fun q => ba (txt q.2.ps)) rs) {j : Nat} {q : Value × Rp} (hq : rs[j]? = some q) :
    (∃ ad, A = some ad ∧ w.cell? (ad.add j) = some q.1) ∧ ∃ ad, A' = some ad ∧ w.cell? (ad.add j) = some (.string (ba (txt q.2.ps))) := by
  have hlt := (List.getElem?_eq_some_iff.mp hq).1
  obtain ⟨B1, d1, e1, _, r1⟩ := Kd.R_reads h.r
  obtain ⟨B2, d2, e2, _, r2⟩ := Kd.R_reads h.t
  injection e1 with e1 _ _
  injection e2 with e2 _ _
  subst e1 e2
  obtain ⟨ad, f1, g1⟩ := at_ptr r1 (j : Int) (by omega) (by rw [List.length_map]; omega)
  obtain ⟨ad', f2, g2⟩ := at_str r2 (j : Int) (by omega) (by rw [List.length_map]; omega)
  refine ⟨⟨ad, f1, ?_⟩, ad', f2, ?_⟩
  · rw [Int.toNat_natCast, List.getD_eq_getElem?_getD, List.getElem?_map, hq] at g1
    exact g1
  · rw [Int.toNat_natCast, List.getD_eq_getElem?_getD, List.getElem?_map, hq] at g2
    exact g2
end Go.Proofs.Ytfllpoonfhiipaa.Pure

set_option linter.unusedVariables false
set_option linter.unusedSimpArgs false
namespace Go.Proofs.Ytfllpoonfhiipaa.Pure
open Go.RowKit Go.Proofs.Ytfllpoonfhiipaa Go.Proofs.Ytfllpoonfhiipaa.P Go.Proofs.Ytfllpoonfhiipaa.Rope Go.Proofs.YtfllpoonfhiipaaW.PrintWords Go.Proofs.YtfllpoonfhiipaaW.PrintLast Go.Proofs.YtfllpoonfhiipaaW.PrintMore
attribute [local go_sem] max2_int min2_int max_two min_two max_three min_three max_four min_four
set_option maxHeartbeats 16000000 in
set_option maxRecDepth 100000 in
theorem RopeEdits {p2 p3 : Prop} (W : World) (a0 : ByteArray) (A1 : Option Addr) (c1 : Nat) (a1 : List (List (S47))) (x0 x1 line : Int) (hr1 : Kd.C (Kd.slice 47 k47) W A1 a1.length a1) (hc1 : a1.length ≤ c1)
    (ok0 : OpG.okS a0) (ok1 : (fun l => l.length ≤ 9223372036854775807 ∧ ∀ a ∈ l, (fun l => l.length ≤ 9223372036854775807 ∧ ∀ a ∈ l, ok47 a) a) a1) (ok2 : p2) (ok3 : p3) :
    Calls Try.prog 10 #[.string a0, .slice A1 a1.length c1, .agg #[.int .i64 x0, .int .i64 x1], .int .i64 line] W fun e w' => e = .returned (.bool true) ∧ Below W.heap.size W w' := by
  have hz := short_size a0
  have hSh := Short_eq a0
  have hu := Try.underlying49
  have HO := Aside0.mk ok1
  have hm := ok1.1
  obtain ⟨W1, hW1⟩ : ∃ W1, W1 = W.alloc (.cells #[.int .i64 x0, .int .i64 x1] 49) := ⟨_, rfl⟩
  have hB0 : Below W.heap.size W W1 := by rw [hW1]; exact (Below.refl _ _).alloc (Nat.le_refl _) _
  have BK : Aside0 (W1.heap[W.heap.size]? = some (.cells #[.int .i64 x0, .int .i64 x1] 49 (0, 0))) := ⟨by rw [hW1]; exact Rope.alloc_at _ _⟩
  have HR := Aside0.mk (Kd.C_below hr1 hB0)
  have HB1 := Aside0.mk hB0
  have HW := Aside0.mk hW1
  have HBX : Aside0 (∀ w, Below W1.heap.size W1 w → w.cell? ⟨W.heap.size, 0, none⟩ = some (.int .i64 x0) ∧ w.cell? ⟨W.heap.size, 1, none⟩ = some (.int .i64 x1)) := ⟨fun w hb => by
    have h2 := (hb.block _ (Rope.blk_lt BK.out)).trans BK.out
    exact ⟨Lib.cell_of_heap h2 0, Lib.cell_of_heap h2 1⟩⟩
  clear ok0 ok1 ok2 ok3 hr1 hB0 hW1 BK
  go_enter Try.func10, Try.ntmps10
  go_upto_region 1 with fail
  rw [← HW.out]
  go_upto_region 2 with (go_at_call 15; refine (marginaliaref01_Short.calls a0 _ _ hSh).mono ?_; rintro e w1 ⟨rfl, hb1⟩; have HX1 := Aside0.mk hb1; clear hb1)
  generalize short a0 = s at *
  clear hSh
  by_cases hs : s.size ≤ 20000
  · have d0 : decide ((s.size : Int) > 20000) = false := decide_eq_false (by omega)
    have HN2 := Aside0.mk (Rope.New_okF s w1 hs)
    go_upto_region 5 with (go_at_call 31; refine HN2.out.mono ?_; rintro e w2 ⟨v2, rfl, hI2, hb2⟩; have HI2 := Aside0.mk hI2; have HX2 := Aside0.mk (Kx.below_step HX1.out hb2); obtain ⟨g2, u2, hv2, _⟩ := hI2.is.open; subst hv2; clear hI2 hb2)
    obtain ⟨p0, p1⟩ := HBX.out _ HX2.out
    have HS2 := Aside0.mk (shows_ok _ (.base (one s)) x0 x1 line w2 HI2.out.is (by show tot (one s) ≤ _; rw [tot_one]; exact hs) (by show (one s).length ≤ _; unfold one; split <;> simp) s (txt_one' s).symm)
    go_upto_region 7 with (go_at_call 37; refine HS2.out.mono ?_; rintro e w3 ⟨rfl, hb3⟩; have HY3 := Aside0.mk hb3; have HX3 := Aside0.mk (Kx.below_step HX2.out hb3); clear hb3)
    clear p0 p1
    go_upto_region 8 with fail
    have hL := kd_lit (e := 52) kp (W := w3) (base := W1.heap.size) (xs := [.pointer (some ⟨g2, 0, none⟩)]) (inner := [.pointer (some ⟨g2, 0, none⟩)]) (show Reps _ 1 _ _ from by simpa using Reps.snoc (Reps.none _ _) (show kp.M w3 W1.heap.size (fun _ => True) (.pointer (some ⟨g2, 0, none⟩)) [.pointer (some ⟨g2, 0, none⟩)] from ⟨rfl, rfl⟩) rfl) HX3.out.size (by simp)
    have HL4 := Aside0.mk (Kd.R_alloc hL (.cells #[.string s] 9))
    have hX4 := HX3.out.alloc HX3.out.size (.cells #[.pointer (some ⟨g2, 0, none⟩)] 52)
    have HM4 := Aside0.mk (kd_lit (e := 9) Kd.string (W := w3.alloc (.cells #[.pointer (some ⟨g2, 0, none⟩)] 52)) (base := W1.heap.size) (xs := [s]) (inner := [.string s]) (show Reps _ 1 _ _ from by simpa using Reps.snoc (Reps.none _ _) (show Kd.string.M (w3.alloc (.cells #[.pointer (some ⟨g2, 0, none⟩)] 52)) W1.heap.size (fun _ => True) s [.string s] from rfl) rfl) hX4.size (by simp))
    have HX4 := Aside0.mk (hX4.alloc hX4.size (.cells #[.string s] 9))
    have hsz : (w3.alloc (.cells #[.pointer (some ⟨g2, 0, none⟩)] 52)).heap.size = w3.heap.size + 1 := by simp
    have hY4 : Below w2.heap.size w2 ((w3.alloc (.cells #[.pointer (some ⟨g2, 0, none⟩)] 52)).alloc (.cells #[.string s] 9)) := (HY3.out.alloc HY3.out.size _).alloc (HY3.out.alloc HY3.out.size _).size _
    have HST0 : Aside0 (St W1.heap.size ((w3.alloc (.cells #[.pointer (some ⟨g2, 0, none⟩)] 52)).alloc (.cells #[.string s] 9)) (.slice (some ⟨w3.heap.size, 0, none⟩) 1 1) (.slice (some ⟨w3.heap.size + 1, 0, none⟩) 1 1) [.pointer (some ⟨g2, 0, none⟩)] [s] [(.pointer (some ⟨g2, 0, none⟩), .base (one s))]) := ⟨by
      have hm4 := HM4.out
      rw [hsz] at hm4
      have h3 := HY3.out.size
      refine ⟨HL4.out, hm4, fun q hq => ?_, fun q hq => ?_⟩
      · rw [List.mem_singleton.mp hq]
        refine HI2.out.move (fun k hk hlt => ⟨hY4.block k hlt, ?_, ?_⟩)
        · intro e
          injection e with e
          have e2 : k = w3.heap.size := e
          omega
        · intro e
          injection e with e
          have e2 : k = w3.heap.size + 1 := e
          omega
      · rw [List.mem_singleton.mp hq]
        exact ⟨one_full s, by show tot (one s) ≤ _; rw [tot_one]; exact hs⟩⟩
    clear hL HL4 HM4 hX4 hsz hY4 HY3 HX3 HI2 HX2 HN2 HS2
    generalize (w3.alloc (.cells #[.pointer (some ⟨g2, 0, none⟩)] 52)).alloc (.cells #[.string s] 9) = w4 at *
    generalize w3.heap.size = g3 at *
    go_wp2_with fail
    go_loopg [12, 13, 14] 12 (fun kq v12 v13 v14 w' => ∃ (i m : Nat) (A12 A13 : Option Addr) (c12 c13 : Nat) (rs : Rps), v12 = .slice A12 (m + 1) c12 ∧ v13 = .slice A13 (m + 1) c13 ∧ v14 = .int .i64 (i : Int) ∧ Aside0 (i + kq = 12 ∧ m ≤ i ∧ rs.length = m + 1) ∧ Aside0 (St W1.heap.size w' (.slice A12 (m + 1) c12) (.slice A13 (m + 1) c13) (rs.map Prod.fst) (rs.map fun q => ba (txt q.2.ps)) rs) ∧ Aside0 (Ch rs) ∧ Aside0 (Below W1.heap.size W1 w'))
    case atStart =>
      refine ⟨0, 0, _, _, _, _, [(.pointer (some ⟨g2, 0, none⟩), .base (one s))], rfl, rfl, rfl, ⟨by omega, by omega, rfl⟩, ⟨?_⟩, ⟨?_, ?_⟩, HX4⟩
      · have h := HST0.out
        simp only [List.map_cons, List.map_nil]
        rw [show ba (txt (Rp.base (one s)).ps) = s from txt_one' s]
        exact h
      · intro p hp
        injection hp with hp
        rw [← hp]
        exact ⟨_, rfl⟩
      · intro j p q _ hq
        simp at hq
    case round =>
      clear HST0 HX4
      obtain ⟨i, m, A12, A13, c12, c13, rs, rfl, rfl, rfl, HK, HST, HCH, HX⟩ := hrel
      obtain ⟨hk1, hk2, hk3⟩ := HK.out
      by_cases hlt : i < a1.length ∧ i < 12
      · obtain ⟨hl1, hl2⟩ := hlt
        have d1 : decide ((i : Int) < (a1.length : Int)) = true := decide_eq_true (by omega)
        have d2 : decide ((i : Int) < 12) = true := decide_eq_true (by omega)
        obtain ⟨q, hq⟩ : ∃ q, rs[m]? = some q := ⟨_, List.getElem?_eq_getElem (by omega)⟩
        obtain ⟨⟨ad, e12, y12⟩, ad', e13, y13⟩ := HST.out.at hq
        cases e12
        cases e13
        obtain ⟨hI, hF, hT⟩ := HST.out.is hq
        obtain ⟨gq, uq, hvq, _⟩ := hI.open
        obtain ⟨adx, A, c, eA, hx, hcc, hC⟩ := row_at HR.out i hl1
        cases eA
        have hx' := (HX.out.cell (World.block_lt_of_cell? W1 _ hx)).trans hx
        have HCw := Aside0.mk (fun (w : World) (hb : Below W1.heap.size W1 w) => Kd.C_below hC hb)
        have hok := HO.out.2 a1[i] (List.getElem_mem hl1)
        clear hx hC
        generalize a1[i] = l at *
        obtain ⟨K1, hK1⟩ := Cut_ev l 400 hok.1
        have hcut := hK1 K1 (Nat.le_refl _)
        have hf : Fit (cut 400 l) := (cut_fine hok.2).fit (by omega)
        have HQ := Aside0.mk hq
        have HI := Aside0.mk hI
        have HF := Aside0.mk hf
        clear hK1 hok hI hf hq
        cases gk with
        | zero => exact absurd hl2 (by omega)
        | succ kq' =>
        obtain ⟨qv, qr⟩ := q
        simp only at hvq hF hT y12 y13
        subst hvq
        go_upto_region 11 with fail
        go_wp2_with fail
        go_quiet (fail)
        have HCutC := Aside0.mk (fun (w : World) (hb : Below W1.heap.size W1 w) => marginaliaref01_Cut.calls K1 _ _ l 400 _ w (HCw.out w hb) hcc hcut)
        go_upto_region 13 with (go_at_call 16; refine (HCutC.out _ (pw_below_drewN HX.out _)).mono ?_; rintro e w5 ⟨v5, rfl, hv5, hb5⟩; have HV5 := Aside0.mk hv5; have HD5 := Aside0.mk ((pw_below_drewN (Below.refl wr.heap.size wr) _).trans hb5); clear hb5 hv5)
        obtain ⟨A5, c5, rfl, hc5, hC5⟩ := Kd.R_reads HV5.out
        have HC5 := Aside0.mk hC5
        have HX5 := Aside0.mk (Kx.below_step HX.out HD5.out)
        have HST5 := Aside0.mk (HST.out.below HD5.out)
        have HU5 := Aside0.mk (Kd.R_lower HV5.out (pw_below_drewN HX.out _).size)
        clear HV5 hcut hx' hcc hC5 HCutC HCw
        have hq := HQ.out
        generalize cut 400 l = u at *
        have hrl : qr.ps.length ≤ 20000 := by have := (full_len hF).1; omega
        have HI5 := Aside0.mk (HI.out.below HD5.out)
        have hsq : (ba (txt qr.ps)).size = tot qr.ps := txt_length' _
        obtain ⟨K2, hK2⟩ := rcheck_ev (ba (txt qr.ps)) u (by omega) HF.out
        have hck := hK2 K2 (Nat.le_refl _)
        rw [hsq] at hck
        have HCK := Aside0.mk (fun (w : World) (hb : Below w5.heap.size w5 w) => marginaliaref01_Check.calls K2 (ba (txt qr.ps)) A5 c5 u _ w (Kd.C_below HC5.out hb) hc5 hck)
        clear hK2 hck HD5 HI HST HX
        by_cases h : chk (tot qr.ps) u = 0
        · obtain ⟨t1, t2⟩ := edit_tot qr.ps u h
          have t4 := editP_full qr.ps (tot qr.ps) u 0
          have HE := Aside0.mk (Rope.Edit_okF _ qr A5 c5 u w5 HI5.out hT (by omega) HF.out HC5.out hc5 h (by omega))
          obtain ⟨K3, hK3⟩ := rapply_ev (ba (txt qr.ps)) u (by rw [hsq]; exact h)
          have hap := hK3 K3 (Nat.le_refl _)
          rw [← t2] at hap
          rw [h] at HCK
          generalize Rope.editP qr.ps (tot qr.ps) 0 u = nr at *
          have hnl : nr.length ≤ 1000000 := by have := (full_len t4).1; omega
          have HAP := Aside0.mk (fun (w : World) (hb : Below w5.heap.size w5 w) => marginaliaref01_Apply.calls K3 (ba (txt qr.ps)) A5 c5 u _ w (Kd.C_below HC5.out hb) hc5 hap)
          have HAQ := Aside0.mk (fun (w : World) (hb : Kd.C k47 w A5 u.length u) => marginaliaref01_Apply.calls K3 (ba (txt qr.ps)) A5 c5 u _ w hb hc5 hap)
          have HSHW := Aside0.mk (fun (w : World) (v : Value) (hI : IsRp w v (.step nr qr)) => shows_ok v (.step nr qr) x0 x1 line w hI t1 hnl (ba (txt nr)) rfl)
          have T := Aside0.mk (And.intro t1 t4)
          clear hK3 hap t2 t1 t4 h
          go_upto_region 14 with (go_at_call 32; refine HE.out.mono ?_; rintro e w6 ⟨g6, rfl, hl6, hb6⟩; have HY6 := Aside0.mk hb6; have HST6 := Aside0.mk (HST5.out.more hb6 (q := (.pointer (some ⟨gq, 0, none⟩), qr)) (List.mem_of_getElem? hq) hl6 T.out.2 T.out.1); clear hb6 hl6)
          go_upto_region 18 with (go_at_call 17; refine (HCK.out _ HY6.out).mono ?_; rintro e w7 ⟨rfl, hb7⟩; have HY7 := Aside0.mk (Kx.below_step HY6.out hb7); have HST7 := Aside0.mk (HST6.out.below hb7); clear hb7)
          have HX7 := Aside0.mk (Kx.below_step HX5.out HY7.out)
          have hI7 := (HST7.out.p (.pointer (some ⟨g6, 0, none⟩), .step nr qr) (by simp)).is
          have HI7 := Aside0.mk hI7
          obtain ⟨p0, p1⟩ := HBX.out _ HX7.out
          clear HST6 HY6 HE HCK HST5 HI5 hI7 hq
          go_wp2_with fail
          go_region_held3 (fun w' => w'.cell? ⟨W.heap.size, 0, none⟩ = some (.int .i64 x0) ∧ w'.cell? ⟨W.heap.size, 1, none⟩ = some (.int .i64 x1)) (first | exact HBX.out _ (below_drew1 HX7.out) | exact HBX.out _ HX9.out | exact HBX.out _ HX8.out) (first | (go_simp; go_at_call 22; refine (HAP.out _ (below_drew1 HY7.out)).mono ?_; rintro e w8 ⟨rfl, hd8⟩; have HD8 := Aside0.mk ((below_drew1 (Below.refl w7.heap.size w7)).trans hd8.below); have HX8 := Aside0.mk (Kx.below_step HX7.out HD8.out); clear hd8) | (go_simp; go_at_call 37; refine (HSHW.out _ _ (HI7.out.below HD8.out)).mono ?_; rintro e w9 ⟨rfl, hb9⟩; have HD9 := Aside0.mk (Kx.below_step HD8.out hb9); have HX9 := Aside0.mk (Kx.below_step HX8.out hb9); clear hb9))
          all_goals
            have HST9 := Aside0.mk (HST7.out.below HD9.out)
            have HU9 := Aside0.mk (Kd.R_below HU5.out (Kx.below_step HY7.out HD9.out))
            have hlen1 : ∀ p : Value, (rs.map Prod.fst ++ [p]).length = m + 1 + 1 := fun p => by simp [hk3]
            have hlen2 : ∀ p : ByteArray, ((rs.map fun q => ba (txt q.2.ps)) ++ [p]).length = m + 1 + 1 := fun p => by simp [hk3]
            have hlm1 : (rs.map Prod.fst).length = m + 1 := by simp [hk3]
            have hlm2 : (rs.map fun q : Value × Rp => ba (txt q.2.ps)).length = m + 1 := by simp [hk3]
            go_upto_region 21 with (at_builtin; refine Kd.R_append kp (w0 := W1) W1.heap.size rfl (.tmp 114) (.tmp 116) 62 52 (.pointer none) 8 rfl Try.underlying62 infoPtr rfl (show 0 < 1 by decide) (by omega) (.slice (some ad) (m + 1) c12) (rs.map Prod.fst) (.pointer (some ⟨g6, 0, none⟩)) [.pointer (some ⟨g6, 0, none⟩)] (fun _ => True) (fun _ => False) rfl (by first | (go_simp; done) | (go_simp; rfl)) ?aP (fun _ hk => hk.elim) ?aF ?aO ?aB ?aS ?aL ?_; (case aP => exact ⟨rfl, rfl⟩); (case aF => exact fun _ _ => trivial); (case aO => exact HST9.out.r); (case aB => exact HX9.out); (case aS => exact HX9.out.size); (case aL => rw [hlm1]; omega); intro v1 wA ho hb hg hat; have HUA := Aside0.mk (own_ne (by decide) rfl HST9.out.r HU9.out hg); have HSTA := Aside0.mk (HST9.out.ptr ho hg hat); have HXA := Aside0.mk hb; obtain ⟨A14, c14, e14⟩ := Kd.R_slice ho; rw [hlen1] at e14; subst e14; clear ho hb hg hat)
            go_wp2_with (first | (go_at_call 22; refine (HAQ.out wA (Kd.R_reads' HUA.out).2.2).mono ?_; rintro e wB ⟨rfl, hdB⟩; have HSTB := Aside0.mk (HSTA.out.below hdB.below); have HXB := Aside0.mk (Kx.below_step HXA.out hdB.below); clear hdB) | (at_builtin; refine Kd.R_append Kd.string (w0 := W1) W1.heap.size rfl (.tmp 118) (.tmp 122) 63 9 (.string ⟨#[]⟩) 16 rfl Try.underlying63 infoString rfl (show 0 < 1 by decide) (by omega) (.slice (some ad') (m + 1) c13) (rs.map fun q => ba (txt q.2.ps)) (ba (txt nr)) [.string (ba (txt nr))] (fun _ => True) (fun _ => False) rfl (by first | (go_simp; done) | (go_simp; rfl)) ?aP (fun _ hk => hk.elim) ?aF ?aO ?aB ?aS ?aL ?_; (case aP => exact rfl); (case aF => exact fun _ _ => trivial); (case aO => exact HSTB.out.t); (case aB => exact HXB.out); (case aS => exact HXB.out.size); (case aL => rw [hlm2]; omega); intro v2 wC ho hb hg hat; have HSTC := Aside0.mk (HSTB.out.tx ho hg hat); have HXC := Aside0.mk hb; obtain ⟨A15, c15, e15⟩ := Kd.R_slice ho; rw [hlen2] at e15; subst e15; clear ho hb hg hat))
            go_roundg kq'
            case measure => omega
            case rel =>
              refine ⟨i + 1, m + 1, _, _, _, _, rs ++ [(.pointer (some ⟨g6, 0, none⟩), .step nr qr)], rfl, rfl, by go_num, ⟨by omega, by omega, by simp [hk3]⟩, ⟨?_⟩, ⟨HCH.out.snoc (q := (.pointer (some ⟨gq, 0, none⟩), qr)) (ps := nr) (by rw [hk3]; exact HQ.out) rfl⟩, HXC⟩
              have h := HSTC.out
              rw [List.map_append, List.map_append]
              exact h
        · have HE := Aside0.mk (Rope.Edit_err _ qr A5 c5 u w5 HI5.out hT HF.out HC5.out hc5 h)
          generalize chk (tot qr.ps) u = z at *
          have hne : (z != 0) = true := bne_iff_ne.mpr h
          have hzz : (z != z) = false := by simp
          go_upto_region 14 with (go_at_call 32; refine HE.out.mono ?_; rintro e w6 ⟨rfl, hb6⟩; have HY6 := Aside0.mk hb6; clear hb6)
          go_wp2_with (go_at_call 17; refine (HCK.out _ HY6.out).mono ?_; rintro e w7 ⟨rfl, hb7⟩; have HY7 := Aside0.mk (Kx.below_step HY6.out hb7); clear hb7)
          go_roundg kq'
          case measure => omega
          case rel => exact ⟨i + 1, m, _, _, _, _, rs, rfl, rfl, by go_num, ⟨by omega, by omega, hk3⟩, ⟨HST5.out.below HY7.out⟩, HCH, ⟨Kx.below_step HX5.out HY7.out⟩⟩
      · have hcs : (i < a1.length ∧ ¬ i < 12) ∨ ¬ i < a1.length := by
          by_cases hl1 : i < a1.length
          · exact .inl ⟨hl1, fun h => hlt ⟨hl1, h⟩⟩
          · exact .inr hl1
        have HLM := Aside0.mk hk3
        clear hlt
        rcases hcs with ⟨hl1, hl2⟩ | hl1
        all_goals
          go_wp2_with fail
          go_loopg [21] (m + 1) (fun kq v21 w' => ∃ z : Int, v21 = .int .i64 z ∧ Aside0 (z = (kq : Int) - 1 ∧ kq ≤ m + 1) ∧ Aside0 (St W1.heap.size w' (.slice A12 (m + 1) c12) (.slice A13 (m + 1) c13) (rs.map Prod.fst) (rs.map fun q => ba (txt q.2.ps)) rs) ∧ Aside0 (Below W1.heap.size W1 w'))
          case atStart => exact ⟨(m : Int), by go_num, ⟨by omega⟩, HST, HX⟩
          case round =>
            clear HST HX
            obtain ⟨z, rfl, HZ, HST, HX⟩ := hrel
            obtain ⟨hz1, hz2⟩ := HZ.out
            by_cases h0 : 0 ≤ z
            · cases gk with
              | zero => exact absurd h0 (by omega)
              | succ kq' =>
              obtain rfl : z = (kq' : Int) := by omega
              clear hz1
              have d3 : decide ((kq' : Int) ≥ 0) = true := decide_eq_true (by omega)
              obtain ⟨q, hq⟩ : ∃ q, rs[kq']? = some q := ⟨_, List.getElem?_eq_getElem (by have := HLM.out; omega)⟩
              obtain ⟨⟨ad, e12, y12⟩, ad', e13, y13⟩ := HST.out.at hq
              cases e12
              cases e13
              obtain ⟨hI, hF, hT⟩ := HST.out.is hq
              obtain ⟨gq, uq, hvq, _⟩ := hI.open
              obtain ⟨qv, qr⟩ := q
              simp only at hvq hF hT y12 y13 hI
              subst hvq
              have hrl : qr.ps.length ≤ 1000000 := by have := (full_len hF).1; omega
              have HI := Aside0.mk hI
              have HSHW := Aside0.mk (fun (w : World) (hI : IsRp w (.pointer (some ⟨gq, 0, none⟩)) qr) => shows_ok _ qr x0 x1 line w hI hT hrl (ba (txt qr.ps)) rfl)
              have HS := Aside0.mk (fun (w : World) (hb : Below wr.heap.size wr w) => (And.intro ((hb.cell (World.block_lt_of_cell? wr _ y12)).trans y12) (And.intro ((hb.cell (World.block_lt_of_cell? wr _ y13)).trans y13) (HBX.out w (Kx.below_step HX.out hb))) : w.cell? (ad.add kq') = some (.pointer (some ⟨gq, 0, none⟩)) ∧ w.cell? (ad'.add kq') = some (.string (ba (txt qr.ps))) ∧ w.cell? ⟨W.heap.size, 0, none⟩ = some (.int .i64 x0) ∧ w.cell? ⟨W.heap.size, 1, none⟩ = some (.int .i64 x1)))
              have q0 : (0 ≤ (kq' : Int)) = True := eq_true (by omega)
              have q1 : ((kq' : Int) < ((m + 1 : Nat) : Int)) = True := eq_true (by omega)
              have q2 : ((kq' : Int) < (m : Int) + 1) = True := eq_true (by omega)
              by_cases hk0 : kq' = 0
              · obtain ⟨ps, hps⟩ := HCH.out.1 _ (by rw [← hk0]; exact hq)
                simp only at hps
                subst hps
                have e0 : ((kq' : Int) == 0) = true := by simp [hk0]
                have HK0 := Aside0.mk hk0
                clear hk0
                have HU := Aside0.mk (Rope.Undo_base _ ps wr HI.out)
                clear y12 y13 hI
                obtain ⟨s0, s1, s2, s3⟩ := HS.out wr (Below.refl _ _)
                go_upto_region 26 with (go_at_call 34; refine HU.out.mono ?_; rintro e w5 ⟨rfl, rfl⟩)
                clear s0 s1 s2 s3
                go_wp2_with fail
                go_region_held3 (fun w' => w'.cell? (ad.add kq') = some (.pointer (some ⟨gq, 0, none⟩)) ∧ w'.cell? (ad'.add kq') = some (.string (ba (txt (Rp.base ps).ps))) ∧ w'.cell? ⟨W.heap.size, 0, none⟩ = some (.int .i64 x0) ∧ w'.cell? ⟨W.heap.size, 1, none⟩ = some (.int .i64 x1)) (first | exact HS.out _ (below_drew1 (Below.refl _ _)) | exact HS.out _ HY8.out) (first | (go_simp; go_at_call 37; refine (HSHW.out _ (HI.out.below (below_drew1 (Below.refl _ _)))).mono ?_; rintro e w8 ⟨rfl, hb8⟩; have HY8 := Aside0.mk (Kx.below_step (below_drew1 (Below.refl w5.heap.size w5)) hb8); clear hb8))
                all_goals
                  go_wp2_with fail
                  go_roundg kq'
                  case measure => omega
                  case rel => exact ⟨(kq' : Int) - 1, by go_num, ⟨by omega, by omega⟩, ⟨HST.out.below HY8.out⟩, ⟨Kx.below_step HX.out HY8.out⟩⟩
              · obtain ⟨n, hn⟩ : ∃ n, kq' = n + 1 := ⟨kq' - 1, by omega⟩
                obtain ⟨p, hp⟩ : ∃ p, rs[n]? = some p := ⟨_, List.getElem?_eq_getElem (by have := HLM.out; omega)⟩
                obtain ⟨ps, hps⟩ := HCH.out.2 n p _ hp (by rw [← hn]; exact hq)
                simp only at hps
                obtain ⟨_, ad2, e2, z13⟩ := HST.out.at hp
                cases e2
                obtain ⟨_, hFp, hTp⟩ := HST.out.is hp
                obtain ⟨pv, pr⟩ := p
                simp only at hps hFp hTp z13
                subst hps
                have hrlp : pr.ps.length ≤ 1000000 := by have := (full_len hFp).1; omega
                have HSHP := Aside0.mk (fun (w : World) (v : Value) (hI : IsRp w v pr) => shows_ok v pr x0 x1 line w hI hTp hrlp (ba (txt pr.ps)) rfl)
                have HSP := Aside0.mk (fun (w : World) (hb : Below wr.heap.size wr w) => (And.intro ((hb.cell (World.block_lt_of_cell? wr _ z13)).trans z13) (HBX.out w (Kx.below_step HX.out hb)) : w.cell? (ad'.add n) = some (.string (ba (txt pr.ps))) ∧ w.cell? ⟨W.heap.size, 0, none⟩ = some (.int .i64 x0) ∧ w.cell? ⟨W.heap.size, 1, none⟩ = some (.int .i64 x1)))
                have e0 : ((kq' : Int) == 0) = false := beq_eq_false_iff_ne.mpr (by omega)
                have HNN := Aside0.mk hn
                have r0 : (0 ≤ (n : Int)) = True := eq_true (by omega)
                have r1 : ((n : Int) < ((m + 1 : Nat) : Int)) = True := eq_true (by omega)
                have r2 : ((n : Int) < (m : Int) + 1) = True := eq_true (by omega)
                have HU := Aside0.mk (Rope.Undo_step _ ps pr wr HI.out)
                have hrr : (n : Int) < (m : Int) + 1 := by omega
                have ew : IntKind.i64.wrap ((kq' : Int) - 1) = (n : Int) := by rw [i64_w]; unfold wrap64; omega
                have hnm : n < m + 1 := by omega
                have hnm2 : n + 1 ≤ m + 1 := by omega
                have hnm3 : decide ((n : Int) < (m : Int) + 1) = true := decide_eq_true hrr
                clear y12 y13 hI z13 hk0 hn
                obtain ⟨s0, s1, s2, s3⟩ := HS.out wr (Below.refl _ _)
                go_upto_region 26 with (go_at_call 34; refine HU.out.mono ?_; rintro e w5 ⟨vu, rfl, hiu, rfl⟩; have HIU := Aside0.mk hiu; clear hiu)
                clear s0 s1 s2 s3
                go_wp2_with fail
                go_region_held3 (fun w' => w'.cell? (ad.add kq') = some (.pointer (some ⟨gq, 0, none⟩)) ∧ w'.cell? (ad'.add kq') = some (.string (ba (txt (Rp.step ps pr).ps))) ∧ w'.cell? ⟨W.heap.size, 0, none⟩ = some (.int .i64 x0) ∧ w'.cell? ⟨W.heap.size, 1, none⟩ = some (.int .i64 x1)) (first | exact HS.out _ (below_drew1 (Below.refl _ _)) | exact HS.out _ HY8.out) (first | (go_simp; go_at_call 37; refine (HSHW.out _ (HI.out.below (below_drew1 (Below.refl _ _)))).mono ?_; rintro e w8 ⟨rfl, hb8⟩; have HY8 := Aside0.mk (Kx.below_step (below_drew1 (Below.refl w5.heap.size w5)) hb8); clear hb8))
                all_goals
                  obtain ⟨gu, uu, hvu, _⟩ := HIU.out.open
                  subst hvu
                  go_upto_region 31 with fail
                  go_wp2_with fail
                  go_region_held3 (fun w' => w'.cell? (ad'.add n) = some (.string (ba (txt pr.ps))) ∧ w'.cell? ⟨W.heap.size, 0, none⟩ = some (.int .i64 x0) ∧ w'.cell? ⟨W.heap.size, 1, none⟩ = some (.int .i64 x1)) (first | exact HSP.out _ (below_drew1 HY8.out) | exact HSP.out _ HY9.out) (first | (go_simp; go_at_call 37; refine (HSHP.out _ _ (HIU.out.below (below_drew1 HY8.out))).mono ?_; rintro e w9 ⟨rfl, hb9⟩; have HY9 := Aside0.mk (Kx.below_step (below_drew1 HY8.out) hb9); clear hb9))
                  all_goals
                    go_wp2_with fail
                    go_roundg kq'
                    case measure => omega
                    case rel => exact ⟨(n : Int), by go_num, ⟨by have := HNN.out; omega, by omega⟩, ⟨HST.out.below HY9.out⟩, ⟨Kx.below_step HX.out HY9.out⟩⟩
            · have d3 : decide (z ≥ 0) = false := decide_eq_false (by omega)
              go_wp2_with (go_at_call 21; refine (marginalialaw01_alive.calls true _ rfl).mono ?_; rintro e w3 ⟨rfl, hb3⟩; have HX3 := Aside0.mk (Kx.below_step HX.out hb3); clear hb3)
              go_ret
              exact ⟨rfl, Kx.below_step HB1.out HX3.out⟩
  · have d0 : decide ((s.size : Int) > 20000) = true := decide_eq_true (by omega)
    go_wp2_with (first | (go_at_call 31; refine (Rope.New_long s _ (by omega)).mono ?_; rintro e w2 ⟨rfl, rfl⟩) | (go_at_call 21; refine (marginalialaw01_alive.calls true _ rfl).mono ?_; rintro e w3 ⟨rfl, hb3⟩; have HX3 := Aside0.mk (Kx.below_step HX1.out hb3); clear hb3))
    go_ret
    exact ⟨rfl, Kx.below_step HB1.out HX3.out⟩
end Go.Proofs.Ytfllpoonfhiipaa.Pure

