/- What the claim's row needs of the seat's texts, part 1: put together by a program of this session (declarations that no text of the claim names are left out). -/
import Derived.RangeFuncNested
import Derived.RangeFuncBound
import Derived.RangeFuncCalls
import Derived.RangeFuncLeaves
import Derived.Shelf.Abstract
import Derived.Shelf.RegionOpen
import Derived.OwnWalkIn
import Derived.TacticsInMore
import Derived.LoopNIn
import Derived.LoopIn
import Derived.Maps.AppendAt
import Derived.Lib.Strings
import Derived.ProofKit
import Derived.OpenShut
import Derived.ShutString
import Derived.ChangeOld
import Derived.Below
import Derived.SizedLaws
import Derived.DataReads
import Derived.Deep.Slices
import Derived.Lib.Builder
import Derived.KernelRfl
import Derived.Shelf.Strings.Builder1
import Derived.Shelf.Small.Strs
import Derived.Shelf.Strings.BuilderF
import Derived.Shelf.Strings.BuilderK
import Derived.Shelf.Strings.Search1
import Derived.Shelf.Strings.Prefix
import Derived.Shelf.Strings.BuilderCap
import Derived.Ground.Names2Prog
import Derived.Shelf.Slices.Clone
import Derived.Test.YtnafnieocpkkhaaProg
import Derived.Lib.FrozenHead2
import Derived.Lib.OthersKept
import Derived.BigQuiet
import Derived.Deep.Draws
import Derived.Deep.AppendLies
import Derived.OwnWalk
import Derived.Laws.BytesArg
import Derived.Laws.MakeOwn
import Derived.Laws.OwnMore
import Derived.Deep.OwnRows
import Derived.Tactics
import Derived.Lib.ConvBytes
import Derived.Laws.Slices
import Derived.WalkKit
import Derived.RowKit3
import Derived.Deep.LoopGhost
import Derived.Deep.QuietTactic
import Derived.WideLaws
import Derived.Deep.DeepCutAuto
import Derived.Deep.CutBlock
import Derived.Deep.RegionHeld3
import Derived.Laws.Rows
import Derived.Lib.AppendStr
import Derived.ArgAppend
import Derived.Laws.IdiomCopy
import Derived.OrdersHeld
import Derived.Laws.BitsLemmas
import Derived.RowKit
import Derived.Outline
import Derived.Deep.RegionLawGrows
import Derived.Lib.SliceRun
import Derived.Lib.Varint
import Derived.Lib.VarintMem
import Derived.Maps.OwnSet
import Derived.Maps.OwnOps
import Derived.Test.YtnafnieocpkkhaaL0
namespace Go.Proofs.Ytnafnieocpkkhaa.Ut
theorem ite_some {α : Type} {c : Prop} [Decidable c] {x : Option α} {r : α} (h : (if c then x else none) = some r) : c ∧ x = some r := by
 by_cases hc : c
 ·rw [if_pos hc] at h; exact ⟨hc, h⟩
 ·rw [if_neg hc] at h; cases h
theorem size_data (s : ByteArray) : s.data.toList.length = s.size := by
 rw [Array.length_toList]; rfl
end Go.Proofs.Ytnafnieocpkkhaa.Ut

set_option linter.unusedVariables false
namespace Go.Proofs.Ytnafnieocpkkhaa.OpG
open Go.RowKit Go.Proofs.YtnafnieocpkkhaaW.PrintWords
variable {H : Type} {enc : TypeId × Value → H} {P : Program} {W : World}
def OpF (enc : TypeId × Value → H) (P : Program) (W : World) (n : Nat) (T : TypeId) {α : Type} (d : Kd α) (ok : α → Prop) : Prop :=
 ∀ cs x, DataW.trod enc P W 0 (fun _ => true) true n T cs = some x → ∃ a, d.K W a cs ∧ ok a
def okI (n : Int) : Prop := -9223372036854775808 ≤ n ∧ n ≤ 9223372036854775807
def okS (s : ByteArray) : Prop := s.size ≤ 9223372036854775807
theorem OpF.int {n : Nat} {T : TypeId} (ht : P.underlying T = some (.int .i64)) : OpF enc P W n T (Kd.int .i64) okI := by
 intro cs x h; obtain ⟨a, rfl, _, hw⟩ := DataW.trod_int ht h; exact ⟨a, rfl, bounds_i64 hw⟩
theorem OpF.bool {n : Nat} {T : TypeId} (ht : P.underlying T = some .bool) : OpF enc P W n T Kd.bool (fun _ => True) := by
 intro cs x h; obtain ⟨a, rfl, _⟩ := DataW.trod_bool ht h; exact ⟨a, rfl, trivial⟩
theorem OpF.string {n : Nat} {T : TypeId} (ht : P.underlying T = some .string) : OpF enc P W n T Kd.string okS := by
 intro cs x h; obtain ⟨a, rfl, _, hw⟩ := DataW.trod_string ht h; exact ⟨a, rfl, hw⟩
theorem choose_list {α : Type} {Q : Nat → α → Prop} : ∀ (n : Nat), (∀ i, i < n → ∃ a, Q i a) → ∃ l : List α, l.length = n ∧ ∀ i a, l[i]? = some a → Q i a
 | 0, _ => ⟨[], rfl, fun i a h => by simp at h⟩
 | n + 1, h => by
  obtain ⟨l, hl, hq⟩ := choose_list n (fun i hi => h i (by omega)); obtain ⟨a, ha⟩ := h n (by omega); refine ⟨l ++ [a], by simp [hl], fun i b hb => ?_⟩
  rcases Nat.lt_or_ge i n with hi | hi
  ·rw [List.getElem?_append_left (by omega)] at hb; exact hq i b hb
  ·have hi' : i = n := by
    have := (List.getElem?_eq_some_iff.1 hb).1
    simp [hl] at this
    omega
   subst hi'; rw [List.getElem?_append_right (by omega)] at hb
   simp [hl] at hb
   subst hb; exact ha
theorem OpF.slice {n : Nat} {T e : TypeId} {α : Type} {d : Kd α} {ok : α → Prop} (ht : P.underlying T = some (.slice e)) (hs : P.cellsOf e = d.sz) (h : ∀ m, m < n → OpF enc P W m e d ok) :
  OpF enc P W n T (Kd.slice e d) (fun l => l.length ≤ 9223372036854775807 ∧ ∀ a ∈ l, ok a) := by
 intro cs x hx
 rcases DataW.trod_slice ht hx with ⟨rfl, _⟩ | ⟨a, len, cap, elems, rest, m, rfl, rfl, _, _, hl, hm, hlen, hel, _⟩
 ·exact ⟨[], ⟨none, 0, rfl, Nat.le_refl _, rfl, by simp, fun h0 => absurd h0 (Nat.lt_irrefl 0)⟩, by simp, fun a ha => by cases ha⟩
 ·have hq : ∀ i, i < len → ∃ b : α, ∃ c, c.length = d.sz ∧ d.K W b c ∧ (∀ j u, c[j]? = some u → W.cell? (a.add (i * d.sz + j)) = some u) ∧ ok b := by
   intro i hi; have h1 := hel i hi; rw [List.getElem?_eq_getElem (by omega)] at h1; obtain ⟨c, hc, hd⟩ := Option.bind_eq_some_iff.1 h1; obtain ⟨_, hcl, hat⟩ := World.cells?_some hc; obtain ⟨b, hb, hok⟩ := h m (Nat.lt_succ_self m) _ _ hd; refine ⟨b, c, by rw [hcl, hs], hb, fun j u hu => ?_, hok⟩
   have hj : j < P.cellsOf e := by
    have := (List.getElem?_eq_some_iff.1 hu).1
    omega
   have := hat j hj; rw [hu, hs] at this; rw [← this, Go.Deep.add_add]
  obtain ⟨l, hll, hlq⟩ := choose_list len hq; unfold maxLen at hm; refine ⟨l, ⟨some a, cap, by rw [hll], by omega, rfl, by omega, fun _ => ⟨a, rfl, fun j p hj => ?_⟩⟩, by omega, fun b hb => ?_⟩
  ·obtain ⟨c, h1, h2, h3, _⟩ := hlq j p hj; exact ⟨c, h1, h2, h3⟩
  ·obtain ⟨i, hi⟩ := List.mem_iff_getElem?.1 hb; obtain ⟨_, _, _, _, h4⟩ := hlq i b hi; exact h4
theorem agg_val {cs : Array Value} {l : List Value} (h : (Value.agg cs).cells.toList = l) : cs = l.toArray := by
 subst h
 simp [Value.cells]
end Go.Proofs.Ytnafnieocpkkhaa.OpG

set_option linter.unusedVariables false
namespace Go.Proofs.Ytnafnieocpkkhaa.Cl
open Go Go.RowKit
variable {W : World} {g : Nat} {t : TypeId} {fz : Nat × Nat} {a b c d : Value}
theorem bstep {w w1 w2 : World} (h : Below w.heap.size w w1) (h2 : Below w1.heap.size w1 w2) : Below w.heap.size w w2 := h.trans (h2.mono h.size)
/-- What lay in a world lies in the other one. -/
class Grew (w w' : World) : Prop where
 keep : ∀ k, k < w.heap.size → k < w'.heap.size ∧ w'.heap[k]? = w.heap[k]?
instance (w : World) : Grew w w := ⟨fun k hk => ⟨hk, rfl⟩⟩
instance (w w' : World) (o : Obj) [h : Grew w w'] : Grew w (w'.alloc o) := ⟨fun k hk => ⟨by have := (h.keep k hk).1; simp; omega, (Below.heap_alloc w' o k (h.keep k hk).1).trans (h.keep k hk).2⟩⟩
instance (w w' : World) [h : Grew w w'] : Grew w w'.drew := ⟨h.keep⟩
instance (w w' : World) (n : Nat) [h : Grew w w'] : Grew w (w'.drewN n) := ⟨h.keep⟩
theorem blk {w w' : World} {g : Nat} {o : Obj} (h : w.heap[g]? = some o) [hg : Grew w w'] : w'.heap[g]? = some o := (hg.keep g (Array.getElem?_eq_some_iff.1 h).1).2.trans h
theorem one (h : W.heap[g]? = some (.cells #[a] t fz)) : W.cell? ⟨g, 0, none⟩ = some a := Lib.cell_of_heap h 0
theorem two (h : W.heap[g]? = some (.cells #[a, b] t fz)) : W.cell? ⟨g, 0, none⟩ = some a ∧ W.cell? ⟨g, 1, none⟩ = some b := ⟨Lib.cell_of_heap h 0, Lib.cell_of_heap h 1⟩
theorem four (h : W.heap[g]? = some (.cells #[a, b, c, d] t fz)) : W.cell? ⟨g, 0, none⟩ = some a ∧ W.cell? ⟨g, 1, none⟩ = some b ∧ W.cell? ⟨g, 2, none⟩ = some c ∧ W.cell? ⟨g, 3, none⟩ = some d := ⟨Lib.cell_of_heap h 0, Lib.cell_of_heap h 1, Lib.cell_of_heap h 2, Lib.cell_of_heap h 3⟩
theorem ffour (h : W.heap[g]? = some (.cells #[a, b, c, d] t (0, 0))) : W.frozen? ⟨g, 0, none⟩ = false ∧ W.frozen? ⟨g, 1, none⟩ = false ∧ W.frozen? ⟨g, 2, none⟩ = false ∧ W.frozen? ⟨g, 3, none⟩ = false := ⟨Lib.frozen_of_heap h 0, Lib.frozen_of_heap h 1, Lib.frozen_of_heap h 2, Lib.frozen_of_heap h 3⟩
end Go.Proofs.Ytnafnieocpkkhaa.Cl

set_option linter.unusedVariables false
namespace Go.Proofs.Ytnafnieocpkkhaa
open Go Go.RowKit Go.Proofs.YtnafnieocpkkhaaW.PrintWords Go.Proofs.YtnafnieocpkkhaaW.PrintLast Go.Proofs.YtnafnieocpkkhaaW.PrintMore
theorem zb {n : Nat} {w W : World} (h : Below n w W := by repeat (first | (with_reducible first | exact HB.out | apply below_alloc | apply pw_below_drewN | apply below_drew1 | refine below_set ?_ (Aside0.out (by assumption))) | exact HB.out)) : Below n w W := h
theorem zr {α : Type} {a b : α} (h : a = b := by first | rfl | (simp [errW_none, errW_some] <;> rfl) | (simp [*, errW_none, errW_some] <;> rfl)) : a = b := h
theorem zs {α : Type} {a b : α} (h : a = b := by first | rfl | (simp; done) | (simp [*]; done)) : a = b := h
theorem zk {a b : Nat} (h : a ≤ b := by have := HK1.out; first | omega | exact Nat.le_refl _) : Aside0 (a ≤ b) := ⟨h⟩
theorem zt {p : Prop} [Decidable p] (h : decide p = true := by first | (with_reducible assumption) | assumption) : p := of_decide_eq_true h
theorem zT {p : Prop} [Decidable p] (h : decide p = true := by first | (with_reducible assumption) | assumption) : p = True := eq_true (of_decide_eq_true h)
theorem zo {α β : Type} {o : Option α} {f : α → Option β} {r : β} (h : o.bind f = some r) : ∃ t, Aside0 (o = some t) ∧ f t = some r := by
 obtain ⟨t, h1, h2⟩ := Option.bind_eq_some_iff.mp h; exact ⟨t, ⟨h1⟩, h2⟩
theorem zf {α : Type} {a b r : α} (h : (if false = true then a else b) = r) : b = r := by simpa using h
theorem zi {α : Type} {p : Prop} [Decidable p] {a : Option α} {r : α} (h : (if p then a else none) = some r) : p ∧ a = some r := by
 by_cases c : p
 ·rw [if_pos c] at h; exact ⟨c, h⟩
 ·rw [if_neg c] at h; simp at h
theorem zq {g : Nat} {w W : World} (hg : g = W.heap.size) (h : Below w.heap.size w W := by repeat (first | (with_reducible first | exact HB.out | apply below_alloc | apply pw_below_drewN | apply below_drew1 | refine below_set ?_ (Aside0.out (by assumption))) | exact HB.out)) : Aside0 (w.heap.size ≤ g) := ⟨by rw [hg]; exact below_size h⟩
theorem zB {w W w1 : World} (hb : Below W.heap.size W w1) (h : Below w.heap.size w W := by repeat (first | (with_reducible first | exact HB.out | apply below_alloc | apply pw_below_drewN | apply below_drew1 | refine below_set ?_ (Aside0.out (by assumption))) | exact HB.out)) : Aside0 (Below w.heap.size w w1) := ⟨below_step h hb⟩
theorem zA {w w' : World} {g : Nat} {o : Obj} (h : Aside0 (w.heap[g]? = some o)) [hg : Cl.Grew w w'] : Aside0 (w'.heap[g]? = some o) := ⟨Cl.blk h.out⟩
theorem zK {w w' w1 : World} {g : Nat} {o : Obj} (h : Aside0 (w.heap[g]? = some o)) (hb : Below w'.heap.size w' w1) [hg : Cl.Grew w w'] : Aside0 (w1.heap[g]? = some o) := ⟨blk_below (Cl.blk h.out) hb⟩
theorem zn {w w' : World} {g : Nat} {o : Obj} (hd : Drawn0 w w') (h : Aside0 (w.heap[g]? = some o)) : Aside0 (w'.heap[g]? = some o) := by
 obtain ⟨n, rfl⟩ := hd; exact h
theorem zm {n : Nat} {w w1 w' : World} (hd : Drawn0 w w') (h : Aside0 (Below n w1 w)) : Aside0 (Below n w1 w') := by
 obtain ⟨n, rfl⟩ := hd; exact ⟨pw_below_drewN h.out _⟩
section
variable {P : Program} {ops : Array Oper} {rest : List Oper} {o : Oper} {a : Act} {Q : Exit → Act → World → Prop} {w : World}
theorem zg (N : Nat) {f : FuncId} {fn : Func} (hf : P.funcs[f]? = some fn) {args : Array Value} {xs : Array Operand} {ts : Array TypeId}
  (h : Calls P f args w fun e w' => ∃ v, e = .returned v ∧ wpList P ops Q rest (a.put (some N) v) w')
  (hd : o.dst = some N := by rfl) (hg : o.guard = none := by rfl) (hname : (fn.name == "runtime.NumGoroutine") = false := by kernel_rfl) (hb : fn.body.isSome = true := by rfl)
  (hop : o.op = .call { callee := .value (.func f), args := xs, argTypes := ts } := by rfl) (hargs : xs.map a.eval = args := by (try simp only [List.map_toArray, List.map_cons, List.map_nil]); first | done | rfl | (simp only [List.length_drop, List.length_take]; rfl)) : wpList P ops Q (o :: rest) a w :=
 goesL_ (some N) hd hg hf hname hb args hop hargs h
theorem zx (N : Tmp) (cs : Array Value) (t : TypeId)
  (h : ∀ g, g = w.heap.size → ∀ w1, w1.heap[g]? = some (.cells cs t (0, 0)) → Below w.heap.size w w1 → wpList P ops Q rest (a.put o.dst (.pointer (some ⟨g, 0, none⟩))) w1)
  (hd : o.dst = some N := by rfl) (hgd : o.guard = none := by rfl)
  (hrun : (execOp a.eval o).run P w = .ok (.value (.pointer (some ⟨w.heap.size, 0, none⟩))) (w.alloc (.cells cs t (0, 0))) := by first | (go_simp; done) | (go_simp; rfl)) : wpList P ops Q (o :: rest) a w :=
 box_event hgd hd hrun h
end
/-- What lay in a world is as it was in the other one. -/
class Ext (w w' : World) : Prop where
 out : Below w.heap.size w w'
instance (w : World) : Ext w w := ⟨Below.refl _ _⟩
instance (w w' : World) (o : Obj) [h : Ext w w'] : Ext w (w'.alloc o) := ⟨below_alloc h.out o⟩
instance (w w' : World) [h : Ext w w'] : Ext w w'.drew := ⟨below_drew h.out⟩
instance (w w' : World) (n : Nat) [h : Ext w w'] : Ext w (w'.drewN n) := ⟨pw_below_drewN h.out n⟩
theorem zl {W w : World} {g g' : Nat} {o : Obj} (hg : g = W.heap.size) (h : Aside0 (w.heap[g']? = some o)) [Cl.Grew w W] : Aside0 (g' ≠ g) := ⟨by rw [hg]; exact Nat.ne_of_lt (blk_lt (Cl.blk h.out : W.heap[g']? = some o))⟩
theorem zl' {W w : World} {g g' : Nat} {o : Obj} (hg : g = W.heap.size) (h : Aside0 (w.heap[g']? = some o)) [Cl.Grew w W] : Aside0 (g ≠ g') := ⟨fun e => (zl hg h).out e.symm⟩
theorem zE {α : Type} {k : Kd α} {w w' : World} {A : Option Addr} {n : Nat} {xs : List α} (h : Aside0 (Kd.C k w A n xs)) [hx : Ext w w'] : Kd.C k w' A n xs := Kd.C_below h.out hx.out
theorem zE' {α : Type} {k : Kd α} {w w' : World} {A : Option Addr} {n : Nat} {xs : List α} (h : Kd.C k w A n xs) [hx : Ext w w'] : Kd.C k w' A n xs := Kd.C_below h hx.out
theorem zC {α : Type} {k : Kd α} {w W : World} {A : Option Addr} {n : Nat} {xs : List α} (h : Aside0 (Kd.C k w A n xs)) (hb : Below w.heap.size w W := by repeat (first | (with_reducible first | exact HB.out | apply below_alloc | apply pw_below_drewN | apply below_drew1 | refine below_set ?_ (Aside0.out (by assumption))) | exact HB.out)) : Kd.C k W A n xs := Kd.C_below h.out hb
theorem zw {w : World} {g : Nat} {o : Obj} (h : w.heap[g]? = some o := by
  (repeat (first | (with_reducible exact Aside0.out (by assumption)) | (with_reducible first | refine blk_drewN ?_ _ | refine blk_drew ?_ | refine blk_alloc ?_ _ | apply blk_put | (apply blk_far; rotate_left; exact Aside0.out (by assumption); rotate_right))))
  all_goals rfl) : w.heap[g]? = some o := h
section
variable {w : World} {g : Nat} {t : TypeId} {a b c d e f x y : Value}
theorem zc2 (h : Aside0 (w.heap[g]? = some (.cells #[a, b] t (0, 0)))) : w.cell? ⟨g, 0, none⟩ = some a ∧ w.cell? ⟨g, 1, none⟩ = some b := ⟨(blk_cell h.out 0).trans rfl, (blk_cell h.out 1).trans rfl⟩
theorem zc4 (h : Aside0 (w.heap[g]? = some (.cells #[a, b, c, d] t (0, 0)))) : w.cell? ⟨g, 0, none⟩ = some a ∧ w.cell? ⟨g, 1, none⟩ = some b ∧ w.cell? ⟨g, 2, none⟩ = some c ∧ w.cell? ⟨g, 3, none⟩ = some d := ⟨(blk_cell h.out 0).trans rfl, (blk_cell h.out 1).trans rfl, (blk_cell h.out 2).trans rfl, (blk_cell h.out 3).trans rfl⟩
theorem zz2 (h : Aside0 (w.heap[g]? = some (.cells #[a, b] t (0, 0)))) : w.frozen? ⟨g, 0, none⟩ = false ∧ w.frozen? ⟨g, 1, none⟩ = false := ⟨blk_frozen h.out 0, blk_frozen h.out 1⟩
theorem zz4 (h : Aside0 (w.heap[g]? = some (.cells #[a, b, c, d] t (0, 0)))) : w.frozen? ⟨g, 0, none⟩ = false ∧ w.frozen? ⟨g, 1, none⟩ = false ∧ w.frozen? ⟨g, 2, none⟩ = false ∧ w.frozen? ⟨g, 3, none⟩ = false := ⟨blk_frozen h.out 0, blk_frozen h.out 1, blk_frozen h.out 2, blk_frozen h.out 3⟩
end
section
variable {P : Program} {ops : Array Oper} {o : Oper} {Q : Exit → Act → World → Prop} {md : Region.Mode} {S : World → Prop} {ds : List Nat} {T : Bool × List (List Nat × List Nat)}
theorem zp (i N : Nat) {fuel : Nat} {oi : Oper} {v : Value} {l l' : Array Bool} {a a' : Act} {w : World} (hT : Aside0 (rtab md ops = T))
  (h : wpAnyLast P md ops Q S ds fuel l' a' w)
  (hi : ops[i]? = some oi := by rfl) (hN : oi.dst = some N := by rfl) (hl : l.setIfInBounds i true = l' := by simp only [List.setIfInBounds_toArray, List.set_cons_zero, List.set_cons_succ]; rfl)
  (hc : anyT T l.toList l'.toList i = true := by kernel_rfl) (hw : Region.wanted oi (yielded ops a.tmps) = true := by rfl)
  (hy : ∀ w' : World, (execOp a.eval oi).run P w' = .ok (.value v) w' := by intro w'; go_simp; with_reducible rfl)
  (ha : a.put (some N) v = a' := by simp only [Act.put, List.setIfInBounds_toArray, List.set_cons_zero, List.set_cons_succ, i64_w, i32_w]; rfl)
  (hQ : ∀ c a w, Q (.panic c) (a.put oi.dst v) w → Q (.panic c) a w := by exact fun _ _ _ h => h) : wpAnyLast P md ops Q S ds (fuel + 1) l a w :=
 pure_ l' hi hN (any_of hT.out hc) hQ (Or.inl ⟨hw, hy⟩) ha h
theorem zu (i N : Nat) {fuel : Nat} {oi : Oper} {l l' : Array Bool} {a a' : Act} {w : World} (hT : Aside0 (rtab md ops = T))
  (h : wpAnyLast P md ops Q S ds fuel l' a' w)
  (hi : ops[i]? = some oi := by rfl) (hN : oi.dst = some N := by rfl) (hl : l.setIfInBounds i true = l' := by simp only [List.setIfInBounds_toArray, List.set_cons_zero, List.set_cons_succ]; rfl)
  (hc : anyT T l.toList l'.toList i = true := by kernel_rfl) (hw : Region.wanted oi (yielded ops a.tmps) = false := by rfl)
  (ha : a.put (some N) undef = a' := by simp only [Act.put, List.setIfInBounds_toArray, List.set_cons_zero, List.set_cons_succ, i64_w, i32_w]; rfl)
  (hQ : ∀ c a w, Q (.panic c) (a.put oi.dst undef) w → Q (.panic c) a w := by exact fun _ _ _ h => h) : wpAnyLast P md ops Q S ds (fuel + 1) l a w :=
 pure_ l' hi hN (any_of hT.out hc) hQ (Or.inr ⟨hw, rfl⟩) ha h
theorem zy (i N : Nat) {B : List Nat} {fuel : Nat} {oi : Oper} {v : Value} {l l' : Array Bool} {a a' : Act} {w : World} (hT : Aside0 (rtab md ops = T)) (hB : Aside0 (waitsOk T.2 B = true)) (hS : S w)
  (h : wpAnyLast P md ops Q S ds fuel l' a' w)
  (hi : ops[i]? = some oi := by rfl) (hN : oi.dst = some N := by rfl) (hl : l.setIfInBounds i true = l' := by simp only [List.setIfInBounds_toArray, List.set_cons_zero, List.set_cons_succ]; rfl)
  (hc : takeW T B ds l.toList l'.toList i = true := by kernel_rfl) (hw : Region.wanted oi (yielded ops a.tmps) = true := by rfl)
  (hy : ∀ w', S w' → (execOp a.eval oi).run P w' = .ok (.value v) w' := by intro w' hs; (repeat (have h1 := And.left hs; replace hs := And.right hs)); go_simp; with_reducible rfl)
  (ha : a.put (some N) v = a' := by simp only [Act.put, List.setIfInBounds_toArray, List.set_cons_zero, List.set_cons_succ, i64_w, i32_w]; rfl)
  (hQ : ∀ c a w, Q (.panic c) (a.put oi.dst v) w → Q (.panic c) a w := by exact fun _ _ _ h => h) : wpAnyLast P md ops Q S ds (fuel + 1) l a w :=
 take_ l' hi hN (take_ofW hT.out hB.out hc) hQ (Or.inl ⟨hw, hy⟩) hS ha h
variable {rest : List Oper} {a : Act} {W : World}
theorem zG (f : FuncId) {xs : Array Operand} {ts : Array TypeId} (_ho : o.op = .call { callee := .value (.func f), args := xs, argTypes := ts }) (h : wpList P ops Q (o :: rest) a W) : wpList P ops Q (o :: rest) a W := h
theorem zD (N : Tmp) (_hN : o.dst = some N) (h : wpList P ops Q (o :: rest) a W) : wpList P ops Q (o :: rest) a W := h
end
theorem zR {α : Type} {d : Kd α} {e base : Nat} {w w' : World} {ok : Nat → Prop} {v : Value} {xs : List α} (h : Aside0 (Kd.R d e w base ok v xs)) [hx : Ext w w'] : Kd.R d e w' base ok v xs := Kd.R_below h.out hx.out
theorem zRm {α : Type} {d : Kd α} {e base : Nat} {w w' : World} {ok ok' : Nat → Prop} {v : Value} {xs : List α} (h : Aside0 (Kd.R d e w base ok v xs)) (hok : ∀ k, ok k → ok' k) [hx : Ext w w'] : Kd.R d e w' base ok' v xs := Kd.R_below (Kd.R_mono h.out hok) hx.out
theorem zRb {α : Type} {d : Kd α} {e base : Nat} {w w' w1 : World} {ok : Nat → Prop} {v : Value} {xs : List α} (h : Aside0 (Kd.R d e w base ok v xs)) (hb : Below w'.heap.size w' w1) [hx : Ext w w'] : Aside0 (Kd.R d e w1 base ok v xs) := ⟨Kd.R_below (Kd.R_below h.out hx.out) hb⟩
section
variable {P : Program} {ops : Array Oper} {Q : Exit → Act → World → Prop} {md : Region.Mode} {S : World → Prop} {ds : List Nat}
end
theorem zX {w w' : World} (h : Drawn0 w w' := by repeat (first | exact Drawn0.refl _ | apply Drawn0.step)) : Drawn0 w w' := h
theorem blk_grown' {w w' w1 : World} {g : Nat} {o : Obj} {row : Option Nat} (h : Aside0 (w.heap[g]? = some o)) (hg : w'.grownBy w1 row) (hne : some g ≠ row) [hx : Cl.Grew w w'] : Aside0 (w1.heap[g]? = some o) := ⟨blk_grown (Cl.blk h.out) hg hne⟩
theorem zw2 {w' w1 : World} (g : Nat) (cs : Array Value) (t : TypeId) (hb : Below w'.heap.size w' w1) (h : w'.heap[g]? = some (.cells cs t (0, 0)) := by
  (repeat (first | (with_reducible exact Aside0.out (by assumption)) | (with_reducible first | refine blk_drewN ?_ _ | refine blk_drew ?_ | refine blk_alloc ?_ _ | apply blk_put | (apply blk_far; rotate_left; exact Aside0.out (by assumption); rotate_right))))
  all_goals rfl) : Aside0 (w1.heap[g]? = some (.cells cs t (0, 0))) := ⟨blk_below h hb⟩
theorem zi1 {α : Type} {p : Prop} [Decidable p] {a : Option α} {r : α} (h : (if p then a else none) = some r) : decide p = true ∧ a = some r := ⟨decide_eq_true (zi h).1, (zi h).2⟩
theorem zi2 {α : Type} {p : Prop} [Decidable p] {a : Option α} {r : α} (h : (if p then a else none) = some r) : (p = True) ∧ decide p = true ∧ a = some r := ⟨eq_true (zi h).1, decide_eq_true (zi h).1, (zi h).2⟩
theorem zh {w W : World} {a : Addr} {v : Value} (hb : Aside0 (Below w.heap.size w W)) (h : w.cell? a = some v) : W.cell? a = some v := (hb.out.cell (World.block_lt_of_cell? w _ h)).trans h
end Go.Proofs.Ytnafnieocpkkhaa

namespace Go.Proofs
open Go.Shelf
def Try.lays170_ren : Go.Shelf.Ren := ⟨fun | 170 => 115 | n => n, fun | 70 => 111 | 3 => 3 | 0 => 0 | 72 => 114 | 37 => 112 | 5 => 5 | n => n, fun | n => n⟩
theorem Try.lays170 : Go.Proofs.Lays.n170 Try.prog Try.lays170_ren := {
 mixed := by kernel_rfl
 f170 := Try.func115.trans (congrArg some (by kernel_rfl))
 t0 := Try.underlying0
 a0 := Try.isAgg0
 z0 := Try.sizeOf0
 v0 := Try.zeroValue0
 t3 := Try.underlying3
 a3 := Try.isAgg3
 z3 := Try.sizeOf3
 v3 := Try.zeroValue3
 t37 := Try.underlying112
 a37 := Try.isAgg112
 z37 := Try.sizeOf112
 v37 := Try.zeroValue112
 t70 := Try.underlying111
 a70 := Try.isAgg111
 z70 := Try.sizeOf111
 v70 := Try.zeroValue111
 t72 := Try.underlying114
 a72 := Try.isAgg114
 z72 := Try.sizeOf114
 v72 := Try.zeroValue114 }
def Try.lays169_ren : Go.Shelf.Ren := ⟨fun | 169 => 84 | n => n, fun | 70 => 111 | 9 => 9 | 0 => 0 | 72 => 114 | 37 => 112 | 127 => 133 | 3 => 3 | 5 => 5 | n => n, fun | n => n⟩
theorem Try.lays169 : Go.Proofs.Lays.n169 Try.prog Try.lays169_ren := {
 mixed := by kernel_rfl
 f169 := Try.func84.trans (congrArg some (by kernel_rfl))
 t0 := Try.underlying0
 a0 := Try.isAgg0
 z0 := Try.sizeOf0
 v0 := Try.zeroValue0
 t3 := Try.underlying3
 a3 := Try.isAgg3
 z3 := Try.sizeOf3
 v3 := Try.zeroValue3
 t9 := Try.underlying9
 a9 := Try.isAgg9
 z9 := Try.sizeOf9
 v9 := Try.zeroValue9
 t37 := Try.underlying112
 a37 := Try.isAgg112
 z37 := Try.sizeOf112
 v37 := Try.zeroValue112
 t70 := Try.underlying111
 a70 := Try.isAgg111
 z70 := Try.sizeOf111
 v70 := Try.zeroValue111
 t72 := Try.underlying114
 a72 := Try.isAgg114
 z72 := Try.sizeOf114
 v72 := Try.zeroValue114
 t127 := Try.underlying133
 a127 := Try.isAgg133
 z127 := Try.sizeOf133
 v127 := Try.zeroValue133 }
theorem Try.Builder_Extra_169 : Builder.Extra Try.prog Try.lays169_ren := {
 sizeBuilder := by kernel_rfl
 liesBuilder := by kernel_rfl
 t5 := Try.underlying5
 a5 := Try.isAgg5
 z5 := Try.sizeOf5
 v5 := Try.zeroValue5
 infoByte := by kernel_rfl
 cellsByte := by kernel_rfl
 sizeByte := by kernel_rfl
 neB5 := by decide }
def Try.lays137_ren : Go.Shelf.Ren := ⟨fun | 137 => 128 | 217 => 131 | 266 => 132 | n => n, fun | 9 => 9 | 5 => 5 | 3 => 3 | n => n, fun | n => n⟩
theorem Try.lays137 : Go.Proofs.Lays.n137 Try.prog Try.lays137_ren := {
 mixed := by kernel_rfl
 f137 := Try.func128.trans (congrArg some (by kernel_rfl))
 f217 := Try.func131.trans (congrArg some (by kernel_rfl))
 f266 := Try.func132.trans (congrArg some (by kernel_rfl))
 t3 := Try.underlying3
 a3 := Try.isAgg3
 z3 := Try.sizeOf3
 v3 := Try.zeroValue3
 t5 := Try.underlying5
 a5 := Try.isAgg5
 z5 := Try.sizeOf5
 v5 := Try.zeroValue5
 t9 := Try.underlying9
 a9 := Try.isAgg9
 z9 := Try.sizeOf9
 v9 := Try.zeroValue9 }
open Go.RowKit in
/-- strings.IndexByte: "IndexByte returns the index of the first instance of c in s, or -1 if c is not present in s.": IT RETURNS 'Lib.indexByte s c'; the world is as it was. (LAID: no walk: one application.) -/
theorem Try.strings_IndexByte (s : ByteArray) (c : Int) (w : World) :
  Calls Try.prog 128 #[.string s, .int .u8 c] w fun e w' => e = .returned (.int .i64 (Lib.indexByte s.data.toList c.toNat.toUInt8)) ∧ w' = w := Any.strings_IndexByte Try.lays137 s c w
open Go.RowKit in
/-- (*strings.Builder).Len: "Len returns the number of accumulated bytes; b.Len() == len(b.String()).": the world is as it was. (THE FORM '_f': 'Lib.IsBuilderF'.) (LAID: no walk: one application.) -/
theorem Try.Builder_Len_f (B b : Nat) (bs : List Value) (w : World) (h : Lib.IsBuilderF 114 5 B b bs w) :
  Calls Try.prog 115 #[.pointer (some ⟨b, 0, none⟩)] w fun e w' => e = .returned (.int .i64 bs.length) ∧ w' = w := Any.Builder_Len_f Try.lays170 B b bs w h
open Go.RowKit in
/-- (*strings.Builder).String: "String returns the accumulated string.": WHATEVER THE BUILDER HOLDS; THE FORM '_f': OF A BUILDER THAT MAY HAVE BEEN READ BEFORE; AND IT IS A BUILDER STILL, holding the same bytes: it can be written on. (LAID: no walk: one application.) -/
theorem Try.Builder_String_any_f (B b : Nat) (l : List UInt8) (w : World) (h : Lib.IsBuilderF 114 5 B b (Lib.byteCells l) w) (hBw : B ≤ w.heap.size) :
  Calls Try.prog 84 #[.pointer (some ⟨b, 0, none⟩)] w fun e w' => e = .returned (.string ⟨l.toArray⟩) ∧ (Lib.IsBuilderF 114 5 B b (Lib.byteCells l) w' ∧ Below B w w') := Any.Builder_String_any_f Try.lays169 Try.Builder_Extra_169 B b l w h hBw
def Try.lays206_ren : Go.Shelf.Ren := ⟨fun | 206 => 129 | n => n, fun | 9 => 9 | 4 => 4 | 3 => 3 | n => n, fun | n => n⟩
theorem Try.lays206 : Go.Proofs.Lays.n206 Try.prog Try.lays206_ren := {
 mixed := by kernel_rfl
 f206 := Try.func129.trans (congrArg some (by kernel_rfl))
 t3 := Try.underlying3
 a3 := Try.isAgg3
 z3 := Try.sizeOf3
 v3 := Try.zeroValue3
 t4 := Try.underlying4
 a4 := Try.isAgg4
 z4 := Try.sizeOf4
 v4 := Try.zeroValue4
 t9 := Try.underlying9
 a9 := Try.isAgg9
 z9 := Try.sizeOf9
 v9 := Try.zeroValue9 }
open Go.RowKit Go.Lib in
/-- internal/stringslite.HasPrefix (what strings.HasPrefix calls). (LAID: no walk: one application.) -/
theorem Try.stringslite_HasPrefix (s p : ByteArray) (w : World) :
  Calls Try.prog 129 #[.string s, .string p] w fun e w' => e = .returned (.bool (Lib.hasPrefix s.data.toList p.data.toList)) ∧ w' = w := Any.stringslite_HasPrefix Try.lays206 s p w
def Try.lays99_ren : Go.Shelf.Ren := ⟨fun | 99 => 121 | 206 => 129 | n => n, fun | 9 => 9 | 4 => 4 | 3 => 3 | n => n, fun | n => n⟩
theorem Try.lays99 : Go.Proofs.Lays.n99 Try.prog Try.lays99_ren := {
 mixed := by kernel_rfl
 f99 := Try.func121.trans (congrArg some (by kernel_rfl))
 f206 := Try.func129.trans (congrArg some (by kernel_rfl))
 t3 := Try.underlying3
 a3 := Try.isAgg3
 z3 := Try.sizeOf3
 v3 := Try.zeroValue3
 t4 := Try.underlying4
 a4 := Try.isAgg4
 z4 := Try.sizeOf4
 v4 := Try.zeroValue4
 t9 := Try.underlying9
 a9 := Try.isAgg9
 z9 := Try.sizeOf9
 v9 := Try.zeroValue9 }
open Go.RowKit Go.Lib in
/-- strings.HasPrefix: "HasPrefix reports whether the string s begins with prefix.": IT RETURNS 'Lib.hasPrefix s prefix'; the world is as it was. (LAID: no walk: one application.) -/
theorem Try.strings_HasPrefix (s p : ByteArray) (w : World) :
  Calls Try.prog 121 #[.string s, .string p] w fun e w' => e = .returned (.bool (Lib.hasPrefix s.data.toList p.data.toList)) ∧ w' = w := Any.strings_HasPrefix Try.lays99 s p w
def Try.laysNm215_ren : Go.Shelf.Ren := ⟨fun | 15 => 57 | n => n, fun | 22 => 30 | 3 => 3 | 4 => 4 | n => n, fun | n => n⟩
theorem Try.laysNm215 : Go.Proofs.Lays2.n15 Try.prog Try.laysNm215_ren := {
 mixed := by kernel_rfl
 f15 := Try.func57.trans (congrArg some (by kernel_rfl))
 t3 := Try.underlying3
 a3 := Try.isAgg3
 z3 := Try.sizeOf3
 v3 := Try.zeroValue3
 t4 := Try.underlying4
 a4 := Try.isAgg4
 z4 := Try.sizeOf4
 v4 := Try.zeroValue4
 t22 := Try.underlying30
 a22 := Try.isAgg30
 z22 := Try.sizeOf30
 v22 := Try.zeroValue30
 i3 := by kernel_rfl }
open Go.RowKit Go.Lib in
/-- slices.Clone at []int: "Clone returns a copy of the slice. The elements are copied using assignment, so this is a shallow clone. The result may have additional unused capacity. The result preserves the nilness of s.": OF A SLICE THAT IS NOT nil IT RETURNS A SLICE THAT IS NOT nil, OF THE SAME ELEMENTS, IN MEMORY OF THE CALL's OWN: in the how-to's words (6f): 'w'.ownsRow B e 1 v' n cells': v' begins at the head of a row among the blocks from B on (B: the heap's size at the call), not frozen, whose first cells are the elements · 'Below B w w'': below B all is as it was. The capacity is whatever the run-time gives. 'zs': what the cells behind the slice's address hold; 'zs.take n': its elements. (LAID: no walk: one application.) -/
theorem Try.slices_Clone_int (b off n c : Nat) (zs : List Int) (w : World) (hz : n ≤ zs.length) (hbig : n * 8 ≤ 140737488355328) (hc : ∀ j, j < zs.length → w.cell? ⟨b, off + j, none⟩ = some (.int .i64 (zs.getD j 0))) :
  Calls Try.prog 57 #[.slice (some ⟨b, off, none⟩) n c] w fun e w' => ∃ v', e = .returned v' ∧ w'.ownsRow w.heap.size 3 1 v' n ((zs.take n).map (Value.int .i64)) ∧ v' ≠ .slice none 0 0 ∧ Below w.heap.size w w' := Any.slices_Clone_int Try.laysNm215 b off n c zs w hz hbig hc
open Go.RowKit Go.Lib in
/-- The same at nil: nil comes back; the world is as it was. (LAID: no walk: one application.) -/
theorem Try.slices_Clone_int_nil (n c : Nat) (w : World) :
  Calls Try.prog 57 #[.slice none n c] w fun e w' => e = .returned (.slice none 0 0) ∧ w' = w := Any.slices_Clone_int_nil Try.laysNm215 n c w
open Go.RowKit Go.Lib in
/-- The same at a slice of length 0 that is not nil, WHATEVER ITS ADDRESS (no cell is asked for): a slice that is not nil and owns nothing comes back. (LAID: no walk: one application.) -/
theorem Try.slices_Clone_int_zero (a : Addr) (c : Nat) (w : World) :
  Calls Try.prog 57 #[.slice (some a) 0 c] w fun e w' => ∃ v', e = .returned v' ∧ w'.ownsRow w.heap.size 3 1 v' 0 [] ∧ v' ≠ .slice none 0 0 ∧ Below w.heap.size w w' := Any.slices_Clone_int_zero Try.laysNm215 a c w
end Go.Proofs

set_option linter.unusedVariables false
namespace Go.Proofs.Ytnafnieocpkkhaa.Bld
open Go.RowKit
theorem infoByte : (Try.prog.info? 5).map (fun i => (i.zero, i.size, i.bytes)) = some (some (.int .u8 0), 1, 1) := by kernel_rfl
theorem sizeBuilder : (Try.prog.info? 114).map (·.size) = some 2 := by kernel_rfl
theorem liesBuilder : liesAt Try.prog Try.prog.depth 114 (2 / Try.prog.cellsOf 114) 0 114 1 = true := by kernel_rfl

set_option maxHeartbeats 1000000 in
set_option maxRecDepth 100000 in
theorem copyCheck_used (b : Nat) (w : World) (h0 : w.cell? ⟨b, 0, none⟩ = some (.pointer (some ⟨b, 0, none⟩))) :
  Calls Try.prog 108 #[.pointer (some ⟨b, 0, none⟩)] w fun e w' => e = .returned (.tuple #[]) ∧ w' = w := by
 obtain ⟨j, hj, _⟩ := Option.map_eq_some_iff.1 sizeBuilder; go_enter Try.func108, Try.ntmps108; go_wp2; rw [Lib.run_neq_ptr_same w _ Try.underlying111 hj]; go_wp2; go_end0; exact ⟨rfl, rfl⟩

set_option maxHeartbeats 1000000 in
set_option maxRecDepth 100000 in
theorem copyCheck_fresh (b : Nat) (w : World) (h0 : w.cell? ⟨b, 0, none⟩ = some (.pointer none)) (hsh : w.shape? b = some (114, 2)) (hfz : w.frozen? ⟨b, 0, none⟩ = false) :
  Calls Try.prog 108 #[.pointer (some ⟨b, 0, none⟩)] w fun e w' => e = .returned (.tuple #[]) ∧ w' = w.setCell ⟨b, 0, none⟩ (.pointer (some ⟨b, 0, none⟩)) := by
 obtain ⟨j, hj, hjs⟩ := Option.map_eq_some_iff.1 sizeBuilder; go_enter Try.func108, Try.ntmps108; go_wp2; rw [Lib.run_to_unsafe w ⟨b, 0, none⟩ Try.underlying111 Try.underlying136 hj (by rw [hjs]; decide) hsh (Nat.zero_lt_succ 1)]; simp only [Result.andThen]; rw [Oper.upon_value]; go_wp2; rw [run_callFunc_extern Try.func111 (by kernel_rfl) (by kernel_rfl) (by kernel_rfl) (e := Extern.AbiNoEscape.same) (by kernel_rfl)]; rw [Lib.run_noEscape]; simp only [Result.andThen]; rw [Oper.upon_value]; go_wp2; rw [Lib.run_from_unsafe w ⟨b, 0, none⟩ Try.underlying136 Try.underlying111 hj hsh liesBuilder]; simp only [Result.andThen]; rw [Oper.upon_value]; go_wp2; go_end0; exact ⟨rfl, rfl⟩

theorem copyCheck_k (B b : Nat) (bs : List Value) (w : World) (h : Lib.IsBuilderF 114 5 B b bs w) :
  Calls Try.prog 108 #[.pointer (some ⟨b, 0, none⟩)] w fun e w' => e = .returned (.tuple #[]) ∧ (Lib.BuilderAtF 114 5 B b (.pointer (some ⟨b, 0, none⟩)) bs w' ∧ Below B w w' ∧ Lib.OthersKept 5 (some b) w w') := by
 rcases h with h | h
 ·refine (copyCheck_fresh b w h.cell0 h.shape h.frozen0).mono ?_; rintro e w' ⟨rfl, rfl⟩; exact ⟨rfl, h.used _, (Below.refl B w).setCell (p := ⟨b, 0, none⟩) h.1 _, (Lib.OthersKept.refl _ _ w).setCell ⟨b, 0, none⟩ rfl _⟩
 ·refine (copyCheck_used b w h.cell0).mono ?_; rintro e w' ⟨rfl, rfl⟩; exact ⟨rfl, h, Below.refl B _, Lib.OthersKept.refl _ _ _⟩

set_option maxHeartbeats 2000000 in
set_option maxRecDepth 100000 in
theorem WriteString_k (B b : Nat) (bs : List Value) (s : ByteArray) (w : World) (h : Lib.IsBuilderF 114 5 B b bs w) (hlen : bs.length + s.size ≤ 140737488355328) (hBw : B ≤ w.heap.size) :
  Calls Try.prog 92 #[.pointer (some ⟨b, 0, none⟩), .string s] w fun e w' => e = .returned (.tuple #[.int .i64 s.size, .nilIface]) ∧ (Lib.BuilderAtF 114 5 B b (.pointer (some ⟨b, 0, none⟩)) (bs ++ Lib.strCells s) w' ∧ Below B w w' ∧ Lib.OthersKept 5 (some b) w w') := by
 obtain ⟨i0, hi, hz0, hz1, hz2⟩ := info_parts infoByte; go_enter Try.func92, Try.ntmps92
 go_wp2_with (go_at_call 108; refine (copyCheck_k B b bs _ h).mono ?_)
 rintro e w1 ⟨rfl, h1, hb1, hk1⟩; obtain ⟨hB, v, hbk, hown, hne⟩ := h1
 have c0 : w1.cell? ⟨b, 0, none⟩ = some (.pointer (some ⟨b, 0, none⟩)) := (by rw [Lib.cell_of_heap hbk]; rfl)
 have c1 : w1.cell? ⟨b, 1, none⟩ = some v := (by rw [Lib.cell_of_heap hbk]; rfl)
 go_wp2_with (at_builtin; refine Lib.wpList_append_own_stringF _ rfl _ _ 112 9 rfl B 5 i0 Try.underlying112 Try.underlying9 hi hz0 hz1 hz2 _ _ _ rfl hown s rfl ?c3 ?c4 ?c5 ?_)
 case c3 => unfold maxLen; omega
 case c4 => omega
 case c5 => have := hb1.size; omega
 intro v' w2 hown' hgrow _
 have hlt : b < w1.heap.size := by
  rcases Nat.lt_or_ge b w1.heap.size with h' | h'
  ·exact h'
  ·simp [Array.getElem?_eq_none h'] at hbk
 have hb2 : w2.heap[b]? = some (.cells #[.pointer (some ⟨b, 0, none⟩), v] 114 (0, 0)) := by
  rw [hgrow.block b hlt (fun e => hne e.symm)]; exact hbk
 have d0 : w2.cell? ⟨b, 0, none⟩ = some (.pointer (some ⟨b, 0, none⟩)) := (by rw [Lib.cell_of_heap hb2]; rfl)
 have d1 : w2.cell? ⟨b, 1, none⟩ = some v := (by rw [Lib.cell_of_heap hb2]; rfl)
 have f1 : w2.frozen? ⟨b, 1, none⟩ = false := Lib.frozen_of_heap hb2 1
 obtain ⟨ao, n', cap, rfl⟩ : ∃ ao n' cap, v' = .slice ao n' cap := by
  rcases hown'.2 with ⟨hv, _⟩ | ⟨g, cap, cur, fz, hv, _⟩
  ·exact ⟨_, _, _, hv⟩
  ·exact ⟨_, _, _, hv⟩
 go_wp2
 go_ret2
 refine ⟨rfl, ?_, ?_, (hk1.grown hgrow (Lib.ownsRowF_kind hown)).setCell ⟨b, 1, none⟩ rfl _⟩
 ·exact Lib.BuilderAtF.put (T := 114) (e := 5) hB hb2 (bs' := bs ++ Lib.strCells s) (by simpa [Lib.strCells_length] using hown') (by decide)
 ·exact (hb1.grown hgrow (by have := hb1.size; omega) (fun k hk => (hown.lt k hk).1)).setCell (p := ⟨b, 1, none⟩) hB _

theorem alloc_at (w : World) (o : Obj) : (w.alloc o).heap[w.heap.size]? = some o := by
 show (w.heap.push o)[w.heap.size]? = some o
 simp
/-- The builder at block b (not below B) holds just these bytes. -/
def IsB (B b : Nat) (l : List UInt8) (w : World) : Prop := Lib.IsBuilderF 114 5 B b (Lib.byteCells l) w
theorem byteCells_append (l m : List UInt8) : Lib.byteCells (l ++ m) = Lib.byteCells l ++ Lib.byteCells m := by simp [Lib.byteCells]
theorem byteCells_length (l : List UInt8) : (Lib.byteCells l).length = l.length := by simp [Lib.byteCells]
theorem IsB.alloc {B b : Nat} {l : List UInt8} {w : World} (h : IsB B b l w) (o : Obj) : IsB B b l (w.alloc o) := Lib.IsBuilderF.alloc h o
theorem IsB.new {B : Nat} {w : World} (h : B ≤ w.heap.size) : IsB B w.heap.size [] (w.alloc (.cells #[.pointer none, .slice none 0 0] 114)) :=
 .inl ⟨h, .slice none 0 0, alloc_at _ _, ⟨by simp [Lib.byteCells], .inl ⟨rfl, by simp [Lib.byteCells]⟩⟩, by simp [Value.ownBlock]⟩
theorem IsB.lt {B b : Nat} {l : List UInt8} {w : World} (h : IsB B b l w) : b < w.heap.size := by
 rcases h with h | h
 ·exact h.lt
 ·exact h.lt
/-- WriteString, in bytes. -/
theorem write (B b : Nat) (l : List UInt8) (s : ByteArray) (w : World) (h : IsB B b l w) (hlen : l.length + s.size ≤ 140737488355328) (hBw : B ≤ w.heap.size) :
  Calls Try.prog 92 #[.pointer (some ⟨b, 0, none⟩), .string s] w fun e w' => e = .returned (.tuple #[.int .i64 s.size, .nilIface]) ∧ IsB B b (l ++ s.data.toList) w' ∧ Below B w w' ∧ Lib.OthersKept 5 (some b) w w' := by
 refine (WriteString_k B b (Lib.byteCells l) s w h (by rw [byteCells_length]; exact hlen) hBw).mono ?_; rintro e w' ⟨rfl, h1, h2, h3⟩; refine ⟨rfl, ?_, h2, h3⟩; unfold IsB; rw [byteCells_append]; exact .inr h1

/-- String, in bytes. -/
theorem string (B b : Nat) (l : List UInt8) (w : World) (h : IsB B b l w) (hBw : B ≤ w.heap.size) :
  Calls Try.prog 84 #[.pointer (some ⟨b, 0, none⟩)] w fun e w' => e = .returned (.string ⟨l.toArray⟩) ∧ Below B w w' := by
 refine (Try.Builder_String_any_f B b l w h hBw).mono ?_; rintro e w' ⟨rfl, _, h2⟩; exact ⟨rfl, h2⟩
end Go.Proofs.Ytnafnieocpkkhaa.Bld

namespace Go.Proofs.Ytnafnieocpkkhaa.P
open Go.RowKit Go.Proofs.YtnafnieocpkkhaaW.PrintWords Go.Proofs.YtnafnieocpkkhaaW.PrintLast Go.Proofs.YtnafnieocpkkhaaW.PrintMore
attribute [local go_sem] max2_int min2_int max_two min_two max_three min_three max_four min_four
set_option linter.unusedVariables false
set_option linter.unusedSimpArgs false



def errW : Option Int → Value
 | none => .nilIface
 | some c => .iface 0 (.int .i64 c)
theorem errW_none : errW none = .nilIface := rfl
theorem errW_some (c : Int) : errW (some c) = .iface 0 (.int .i64 c) := rfl

theorem info23 : (Try.prog.info? 23).map (fun i => (i.zero, i.size, i.bytes)) = some (some (.agg #[(.int .i64 0), (.string ⟨#[]⟩)]), 2, 24) := by kernel_rfl
theorem info26 : (Try.prog.info? 26).map (fun i => (i.zero, i.size, i.bytes)) = some (some (.agg #[(.int .i64 0), (.int .i64 0), (.string ⟨#[]⟩), (.slice none 0 0)]), 4, 56) := by kernel_rfl
/-! #### struct type 23 -/
structure S23 where
 f0 : Int
 f1 : ByteArray
def z23 : S23 := ⟨(0 : Int), (⟨#[]⟩ : ByteArray)⟩
def k23 : Kd S23 := Kd.iso (Kd.pair (Kd.int .i64) Kd.string) (fun x : S23 => (x.f0, x.f1))
theorem k23_open {w : World} {x : S23} {cs : List Value} (h : k23.K w x cs) : cs = [.int .i64 x.f0, .string x.f1] := by
 obtain ⟨_, _, rfl, rfl, rfl⟩ := h; exact rfl
theorem k23_mk (w : World) (x : S23)  : k23.K w x [.int .i64 x.f0, .string x.f1] := ⟨[.int .i64 x.f0], [.string x.f1], rfl, rfl, rfl⟩
theorem k23_mkM (w : World) (base : Nat) (ok : Nat → Prop) (x : S23)  : k23.M w base ok x [.int .i64 x.f0, .string x.f1] := ⟨[.int .i64 x.f0], [.string x.f1], rfl, rfl, rfl⟩
def rd_T23 (xs : List S23) (i : Int) : S23 := xs.getD i.toNat z23
theorem at_T23 {w : World} {A : Option Addr} {n : Nat} {xs : List S23} (h : Kd.C k23 w A n xs) (i : Int) (h0 : 0 ≤ i) (h1 : i < n) : ∃ ad , A = some ad ∧ w.cell? (ad.add (i.toNat * 2)) = some (.int .i64 (rd_T23 xs i).f0) ∧ w.cell? ⟨(ad.add (i.toNat * 2)).block, (ad.add (i.toNat * 2)).off + 1, none⟩ = some (.string (rd_T23 xs i).f1) := by
 obtain ⟨ad, c, e, _, hK, hc0⟩ := Kd.C_get h z23 i h0 h1; have hc : ∀ j u, c[j]? = some u → w.cell? (ad.add (i.toNat * 2 + j)) = some u := hc0; obtain rfl := k23_open hK; exact ⟨ad, e, hc 0 _ rfl, by rw [← add_field _ _ 1 (by omega)]; exact hc 1 _ rfl⟩

/-! #### struct type 26, nested in itself -/
structure S26 where
 f0 : Int
 f1 : S23
 f2 : (List S26)
def z26 : S26 := ⟨(0 : Int), z23, ([] : List S26)⟩
def F26 (d : Kd S26) : Kd S26 := Kd.iso (Kd.pair (Kd.int .i64) (Kd.pair k23 (Kd.slice 26 d))) (fun x : S26 => (x.f0, x.f1, x.f2))
theorem mono26 : Kd.Mono F26 := Kd.mono_iso _ (Kd.mono_pair (Kd.mono_const _) (Kd.mono_pair (Kd.mono_const _) (Kd.mono_slice 26 Kd.mono_id)))
theorem sub26 : Kd.Sub F26 [26] := Kd.sub_iso _ (Kd.sub_pair (Kd.sub_const _ (by decide)) (Kd.sub_pair (Kd.sub_const _ (by decide)) (Kd.sub_slice 26 (by decide) Kd.sub_id)))
theorem sz26 : ∀ n, (Kd.upto F26 4 [26] n).sz = 4 := Kd.upto_sz (fun _ => rfl)
def k26 : Kd S26 := Kd.fix F26 4 [26] sz26 (Kd.upto_E sub26)
theorem k26_open {w : World} {x : S26} {cs : List Value} (h : k26.K w x cs) : ∃ A3 c3, cs = [.int .i64 x.f0, .int .i64 x.f1.f0, .string x.f1.f1, .slice A3 x.f2.length c3] ∧ x.f2.length ≤ c3 ∧ k26.C w A3 x.f2.length x.f2 := by
 obtain ⟨n, h⟩ := h
 cases n with
 | zero => exact h.elim
 | succ n =>
  obtain ⟨_, _, rfl, rfl, ⟨_, _, rfl, s1, ⟨A3, c3, rfl, l3, g3⟩⟩⟩ := h; obtain rfl := k23_open s1; exact ⟨A3, c3, rfl, l3, Kd.fix_C g3⟩
theorem k26_mk (w : World) (x : S26) {A3 : Option Addr} {c3 : Nat} (l3 : x.f2.length ≤ c3) (g3 : k26.C w A3 x.f2.length x.f2) : k26.K w x [.int .i64 x.f0, .int .i64 x.f1.f0, .string x.f1.f1, .slice A3 x.f2.length c3] := by
 obtain ⟨n3, q3⟩ := Kd.fix_C_back mono26 g3; have r3 := Kd.upto_C_le mono26 sz26 (show n3 ≤ n3 by omega) q3; exact ⟨n3 + 1, ⟨[.int .i64 x.f0], [.int .i64 x.f1.f0, .string x.f1.f1, .slice A3 x.f2.length c3], rfl, rfl, ⟨[.int .i64 x.f1.f0, .string x.f1.f1], [.slice A3 x.f2.length c3], rfl, (k23_mk w x.f1 ), ⟨A3, c3, rfl, l3, r3⟩⟩⟩⟩
theorem k26_mkM (w : World) (base : Nat) (ok : Nat → Prop) (x : S26) {v3 : Value} (g3 : k26.R 26 w base ok v3 x.f2) : k26.M w base ok x [.int .i64 x.f0, .int .i64 x.f1.f0, .string x.f1.f1, v3] := by
 obtain ⟨n3, q3⟩ := Kd.fix_R_back mono26 g3; have r3 := Kd.upto_R_le mono26 sz26 (show n3 ≤ n3 by omega) q3; exact ⟨n3 + 1, ⟨[.int .i64 x.f0], [.int .i64 x.f1.f0, .string x.f1.f1, v3], rfl, rfl, ⟨[.int .i64 x.f1.f0, .string x.f1.f1], [v3], rfl, (k23_mkM w base ok x.f1 ), ⟨v3, rfl, r3⟩⟩⟩⟩
def rd_T26 (xs : List S26) (i : Int) : S26 := xs.getD i.toNat z26
theorem at_T26 {w : World} {A : Option Addr} {n : Nat} {xs : List S26} (h : Kd.C k26 w A n xs) (i : Int) (h0 : 0 ≤ i) (h1 : i < n) : ∃ ad A3 c3, A = some ad ∧ w.cell? (ad.add (i.toNat * 4)) = some (.int .i64 (rd_T26 xs i).f0) ∧ w.cell? ⟨(ad.add (i.toNat * 4)).block, (ad.add (i.toNat * 4)).off + 1, none⟩ = some (.int .i64 (rd_T26 xs i).f1.f0) ∧ w.cell? ⟨(ad.add (i.toNat * 4)).block, (ad.add (i.toNat * 4)).off + 2, none⟩ = some (.string (rd_T26 xs i).f1.f1) ∧ w.cell? ⟨(ad.add (i.toNat * 4)).block, (ad.add (i.toNat * 4)).off + 3, none⟩ = some (.slice A3 (rd_T26 xs i).f2.length c3) ∧ (rd_T26 xs i).f2.length ≤ c3 ∧ k26.C w A3 (rd_T26 xs i).f2.length (rd_T26 xs i).f2 := by
 obtain ⟨ad, c, e, _, hK, hc0⟩ := Kd.C_get h z26 i h0 h1; have hc : ∀ j u, c[j]? = some u → w.cell? (ad.add (i.toNat * 4 + j)) = some u := hc0; obtain ⟨A3, c3, rfl, l3, g3⟩ := k26_open hK; exact ⟨ad, A3, c3, e, hc 0 _ rfl, by rw [← add_field _ _ 1 (by omega)]; exact hc 1 _ rfl, by rw [← add_field _ _ 2 (by omega)]; exact hc 2 _ rfl, by rw [← add_field _ _ 3 (by omega)]; exact hc 3 _ rfl, l3, g3⟩

end Go.Proofs.Ytnafnieocpkkhaa.P

set_option linter.unusedVariables false
set_option linter.unusedSimpArgs false
namespace Go.Proofs.Ytnafnieocpkkhaa.P
open Go.RowKit Go.Proofs.Ytnafnieocpkkhaa Go.Proofs.YtnafnieocpkkhaaW.PrintWords
variable {H : Type} {enc : TypeId × Value → H} {W : World}
def ok23 (x : S23) : Prop := OpG.okI x.f0 ∧ OpG.okS x.f1
theorem open23 (n : Nat) : OpG.OpF enc Try.prog W n 23 k23 ok23 := by
 intro cs x h; obtain ⟨xs, m, rfl, _, hcl, hxl, hf⟩ := DataW.trod_struct Try.underlying23 h; have hcs : cs.length = 2 := hcl.trans (by kernel_rfl); have e0 : DataW.trod enc Try.prog W 0 (fun _ => true) true m 3 ((cs.drop 0).take (Try.prog.cellsOf 3)) = xs[0]? := hf 0 _ rfl; rw [show Try.prog.cellsOf 3 = 1 by kernel_rfl] at e0; rw [List.getElem?_eq_getElem (by rw [hxl]; decide)] at e0; obtain ⟨a0, c0, o0⟩ := ((OpG.OpF.int Try.underlying3) : OpG.OpF enc Try.prog W m 3 (Kd.int .i64) OpG.okI) _ _ e0; have e1 : DataW.trod enc Try.prog W 0 (fun _ => true) true m 9 ((cs.drop 1).take (Try.prog.cellsOf 9)) = xs[1]? := hf 1 _ rfl; rw [show Try.prog.cellsOf 9 = 1 by kernel_rfl] at e1; rw [List.getElem?_eq_getElem (by rw [hxl]; decide)] at e1; obtain ⟨a1, c1, o1⟩ := ((OpG.OpF.string Try.underlying9) : OpG.OpF enc Try.prog W m 9 Kd.string OpG.okS) _ _ e1
 have hsp : cs = ((cs.drop 0).take 1) ++ ((cs.drop 1).take 1) := by
  obtain ⟨u0, u1, rfl⟩ : ∃ u0 u1, cs = [u0, u1] := by
   clear e0 h hf hcl e1 c0 c1
   match cs, hcs with
   | [u0, u1], _ => exact ⟨u0, u1, rfl⟩
  rfl
 refine ⟨⟨a0, a1⟩, ?_, o0, o1⟩; rw [hsp]; exact (show k23.K W _ _ from ⟨_, _, rfl, c0, c1⟩)
def ok26 (_ : S26) : Prop := True
theorem open26 (n : Nat) : OpG.OpF enc Try.prog W n 26 k26 ok26 := by
 induction n using Nat.strongRecOn with
 | ind n ih =>
 intro cs x h; obtain ⟨xs, m, rfl, _, hcl, hxl, hf⟩ := DataW.trod_struct Try.underlying26 h; have hcs : cs.length = 4 := hcl.trans (by kernel_rfl)
 obtain ⟨u0, u1, u2, u3, rfl⟩ : ∃ u0 u1 u2 u3, cs = [u0, u1, u2, u3] := by
  clear h hf hcl
  match cs, hcs with
  | [u0, u1, u2, u3], _ => exact ⟨u0, u1, u2, u3, rfl⟩
 have e0 : DataW.trod enc Try.prog W 0 (fun _ => true) true m 3 (([u0, u1, u2, u3].drop 0).take (Try.prog.cellsOf 3)) = xs[0]? := hf 0 _ rfl; rw [show Try.prog.cellsOf 3 = 1 by kernel_rfl] at e0; rw [List.getElem?_eq_getElem (by rw [hxl]; decide)] at e0; obtain ⟨a0, c0, _⟩ := ((OpG.OpF.int Try.underlying3) : OpG.OpF enc Try.prog W m 3 (Kd.int .i64) OpG.okI) _ _ e0; have e1 : DataW.trod enc Try.prog W 0 (fun _ => true) true m 23 (([u0, u1, u2, u3].drop 1).take (Try.prog.cellsOf 23)) = xs[1]? := hf 1 _ rfl; rw [show Try.prog.cellsOf 23 = 2 by kernel_rfl] at e1; rw [List.getElem?_eq_getElem (by rw [hxl]; decide)] at e1; obtain ⟨a1, c1, _⟩ := ((open23 _) : OpG.OpF enc Try.prog W m 23 k23 ok23) _ _ e1; have e2 : DataW.trod enc Try.prog W 0 (fun _ => true) true m 24 (([u0, u1, u2, u3].drop 3).take (Try.prog.cellsOf 24)) = xs[2]? := hf 2 _ rfl; rw [show Try.prog.cellsOf 24 = 1 by kernel_rfl] at e2; rw [List.getElem?_eq_getElem (by rw [hxl]; decide)] at e2; obtain ⟨a2, c2, _⟩ := (OpG.OpF.slice Try.underlying24 (by kernel_rfl) (fun m' hm' => ih m' (Nat.lt_succ_of_lt hm'))) _ _ e2; have d0 : _ = [_] := c0; simp only [List.drop_succ_cons, List.drop_zero, List.take_succ_cons, List.take_zero, List.cons.injEq, and_true] at d0; subst d0; have d1 := k23_open c1; simp only [List.drop_succ_cons, List.drop_zero, List.take_succ_cons, List.take_zero, List.cons.injEq, and_true] at d1; obtain ⟨rfl, rfl⟩ := d1; obtain ⟨A2, q2, d2, l2, g2⟩ := c2; simp only [List.drop_succ_cons, List.drop_zero, List.take_succ_cons, List.take_zero, List.cons.injEq, and_true] at d2; subst d2; exact ⟨⟨a0, a1, a2⟩, k26_mk W ⟨a0, a1, a2⟩ l2 g2, trivial⟩
end Go.Proofs.Ytnafnieocpkkhaa.P

set_option linter.unusedVariables false
set_option linter.unusedSimpArgs false
namespace Go.Proofs.Ytnafnieocpkkhaa.Bld
open Go Go.RowKit Go.Proofs.YtnafnieocpkkhaaW.PrintWords Go.Proofs.YtnafnieocpkkhaaW.PrintLast Go.Proofs.YtnafnieocpkkhaaW.PrintMore
set_option maxHeartbeats 2000000 in
set_option maxRecDepth 100000 in
theorem WriteByte_k (B b : Nat) (bs : List Value) (c : Int) (w : World) (h : Lib.IsBuilderF 114 5 B b bs w) (hlen : bs.length + 1 ≤ 140737488355328) (hBw : B ≤ w.heap.size) :
  Calls Try.prog 91 #[.pointer (some ⟨b, 0, none⟩), .int .u8 c] w fun e w' => e = .returned .nilIface ∧ (Lib.BuilderAtF 114 5 B b (.pointer (some ⟨b, 0, none⟩)) (bs ++ [.int .u8 c]) w' ∧ Below B w w' ∧ Lib.OthersKept 5 (some b) w w') := by
 obtain ⟨i0, hi, hz0, hz1, hz2⟩ := info_parts infoByte; go_enter Try.func91, Try.ntmps91
 go_wp2_with (go_at_call 108; refine (copyCheck_k B b bs _ h).mono ?_)
 rintro e w1 ⟨rfl, h1, hb1, hk1⟩; obtain ⟨hB, v, hbk, hown, hne⟩ := h1
 have c0 : w1.cell? ⟨b, 0, none⟩ = some (.pointer (some ⟨b, 0, none⟩)) := (by rw [Lib.cell_of_heap hbk]; rfl)
 have c1 : w1.cell? ⟨b, 1, none⟩ = some v := (by rw [Lib.cell_of_heap hbk]; rfl)
 go_wp2_with (at_builtin; refine wpList_append_ownF _ rfl _ _ 112 rfl B 5 i0 (.int .u8 0) 1 1 Try.underlying112 hi hz0 hz1 hz2 rfl (by decide) _ _ _ rfl (hown.alloc _) ⟨w1.heap.size, 0, none⟩ 1 1 [.int .u8 c] rfl rfl ?c1 ?c2 ?c3 ?c4 ?c5 ?_)
 case c1 =>
  intro j u hj
  match j, hj with
  | 0, hj => simp at hj; subst hj; simp [Addr.add]
 case c2 => intro u hu; simp at hu; subst hu; rfl
 case c3 => unfold maxLen; omega
 case c4 => omega
 case c5 => have := hb1.size; simp; omega
 intro v' w2 hown' hgrow _
 have hlt : b < w1.heap.size := by
  rcases Nat.lt_or_ge b w1.heap.size with h' | h'
  ·exact h'
  ·simp [Array.getElem?_eq_none h'] at hbk
 have hb2 : w2.heap[b]? = some (.cells #[.pointer (some ⟨b, 0, none⟩), v] 114 (0, 0)) := by
  rw [hgrow.block b (by simp; omega) (fun e => hne e.symm), Lib.alloc_old w1 _ b hlt]; exact hbk
 have d0 : w2.cell? ⟨b, 0, none⟩ = some (.pointer (some ⟨b, 0, none⟩)) := (by rw [Lib.cell_of_heap hb2]; rfl)
 have d1 : w2.cell? ⟨b, 1, none⟩ = some v := (by rw [Lib.cell_of_heap hb2]; rfl)
 have f1 : w2.frozen? ⟨b, 1, none⟩ = false := Lib.frozen_of_heap hb2 1
 obtain ⟨g, cap, rfl⟩ : ∃ g cap, v' = .slice (some ⟨g, 0, none⟩) (bs.length + 1) cap := by
  rcases hown'.2 with ⟨_, h0⟩ | ⟨g, cap, cur, fz, hv, _⟩
  ·omega
  ·exact ⟨g, cap, hv⟩
 go_wp2; go_ret; refine ⟨rfl, ?_, ?_, ((hk1.alloc _).grown hgrow (Lib.ownsRowF_kind (hown.alloc _))).setCell ⟨b, 1, none⟩ rfl _⟩
 ·exact Lib.BuilderAtF.put (T := 114) (e := 5) hB hb2 (bs' := bs ++ [.int .u8 c]) (by simpa using hown') (by decide)
 ·exact ((hb1.alloc (by have := hb1.size; omega) _).grown hgrow (by have := hb1.size; simp; omega) (fun k hk => (hown.lt k hk).1)).setCell (p := ⟨b, 1, none⟩) hB _
/-- WriteByte, in bytes. -/
theorem writeByte (B b : Nat) (l : List UInt8) (c : Int) (d : Nat) (w : World) (hd : d < 256) (hc : c = (d : Int)) (h : IsB B b l w) (hlen : l.length + 1 ≤ 140737488355328) (hBw : B ≤ w.heap.size) :
  Calls Try.prog 91 #[.pointer (some ⟨b, 0, none⟩), .int .u8 c] w fun e w' => e = .returned .nilIface ∧ IsB B b (l ++ [d.toUInt8]) w' ∧ Below B w w' ∧ Lib.OthersKept 5 (some b) w w' := by
 subst hc; refine (WriteByte_k B b (Lib.byteCells l) (d : Int) w h (by rw [byteCells_length]; exact hlen) hBw).mono ?_; rintro e w' ⟨rfl, h1, h2, h3⟩; refine ⟨rfl, ?_, h2, h3⟩; unfold IsB; rw [Lib.byteCells_snoc l hd]; exact .inr h1
set_option maxHeartbeats 2000000 in
set_option maxRecDepth 100000 in
/-- put(i): i's varint. -/
theorem put (B b x : Nat) (l : List UInt8) (w : World) (h : IsB B b l w) (hx : x ≤ 9223372036854775807) (hlen : l.length + (Lib.uvarint x).length ≤ 140737488355328) (hBw : B ≤ w.heap.size) :
  Calls Try.prog 90 #[.int .i64 (x : Int), .pointer (some ⟨b, 0, none⟩)] w fun e w' => e = .returned (.tuple #[]) ∧ IsB B b (l ++ Lib.uvarint x) w' ∧ Below B w w' ∧ Lib.OthersKept 5 (some b) w w' := by
 have HI := Aside0.mk h; have HL := Aside0.mk hlen; clear h hlen; go_enter Try.func90, Try.ntmps90; go_wp2_with fail
 go_loopg [0] x (fun kq v0 w' => ∃ (y : Nat) (m : List UInt8), v0 = .int .i64 (y : Int) ∧ Aside0 (y ≤ kq) ∧ Aside0 (y ≤ x) ∧ Aside0 (m ++ Lib.uvarint y = l ++ Lib.uvarint x) ∧ Aside0 (IsB B b m w') ∧ Aside0 (Below B w w') ∧ Aside0 (Lib.OthersKept 5 (some b) w w'))
 case atStart => exact ⟨x, l, rfl, ⟨Nat.le_refl _⟩, ⟨Nat.le_refl _⟩, ⟨rfl⟩, HI, ⟨Below.refl _ _⟩, ⟨Lib.OthersKept.refl _ _ _⟩⟩
 case round =>
  clear HI; obtain ⟨y, m, rfl, HK, HX, HE, HI, HB, HO⟩ := hrel; have hll := congrArg List.length HE.out; rw [List.length_append, List.length_append] at hll; have hup := Lib.uvarint_pos y; have hxl := HL.out; have hyx := HX.out; have hsz := HB.out.size; by_cases hc : 128 ≤ y
  ·have hd1 : decide ((128 : Int) ≤ (y : Int)) = true := decide_eq_true (by omega)
   cases gk with
   | zero => exact absurd hc (by have := HK.out; omega)
   | succ kq' =>
   go_wp2_with (go_at_call 91; refine (writeByte B b m _ (y % 128 + 128) _ (by omega) ?hc HI.out (by omega) (Nat.le_trans hBw hsz)).mono ?_)
   case hc => rw [Lib.u8_or128_any _ (by omega) (by omega)]; omega
   rintro e w1 ⟨rfl, hi1, hb1, ho1⟩; have HI1 := Aside0.mk hi1; have HB1 := Aside0.mk (HB.out.trans hb1); have HO1 := Aside0.mk (HO.out.trans ho1); clear hi1 hb1 ho1; go_wp2_with fail
   go_roundg kq'
   case measure => omega
   case rel => exact ⟨y / 128, m ++ [(y % 128 + 128).toUInt8], by go_num, ⟨by have := HK.out; omega⟩, ⟨by omega⟩, ⟨by rw [← HE.out, Lib.uvarint_big hc, List.append_assoc]; rfl⟩, HI1, HB1, HO1⟩
  ·have hd1 : decide ((128 : Int) ≤ (y : Int)) = false := decide_eq_false (by omega)
   go_wp2_with (go_at_call 91; refine (writeByte B b m _ y _ (by omega) rfl HI.out (by omega) (Nat.le_trans hBw hsz)).mono ?_; rintro e w1 ⟨rfl, hi1, hb1, ho1⟩)
   go_end0; refine ⟨rfl, ?_, HB.out.trans hb1, HO.out.trans ho1⟩; rw [← HE.out, Lib.uvarint_small (by omega)]; exact hi1
end Go.Proofs.Ytnafnieocpkkhaa.Bld

set_option linter.unusedVariables false
set_option linter.unusedSimpArgs false
namespace Go.Proofs.Ytnafnieocpkkhaa.Nums
open Go Go.RowKit Go.Proofs.YtnafnieocpkkhaaW.PrintWords Go.Proofs.YtnafnieocpkkhaaW.PrintLast Go.Proofs.YtnafnieocpkkhaaW.PrintMore
/-- A key's number; 0: it has none. -/
def num : List ByteArray → ByteArray → Nat
 | [], _ => 0
 | k :: r, s => if k = s then 1 else (if num r s = 0 then 0 else num r s + 1)
theorem num_snoc : ∀ (ks : List ByteArray) (s t : ByteArray), num (ks ++ [s]) t = if num ks t ≠ 0 then num ks t else if s = t then ks.length + 1 else 0
 | [], s, t => by simp [num]
 | k :: r, s, t => by
  have ih := num_snoc r s t; rw [List.cons_append, num, num, ih, List.length_cons]; by_cases h : k = t
  ·simp [h]
  ·by_cases h2 : num r t = 0
   ·by_cases h3 : s = t <;> simp [h, h2, h3]
   ·simp [h, h2]
abbrev lk (s : ByteArray) : Lit := .string s.data.toList
theorem lk_inj {s t : ByteArray} (h : lk s = lk t) : s = t := by
 injection h with h; exact ByteArray.ext (Array.ext' h)
/-- The map in block b: the keys ks have the numbers 1, 2, .. -/
def MapOK (w : World) (b : Nat) (ks : List ByteArray) : Prop := ∃ D : DataW Unit, w.ownsMap Try.prog 9 (plainElem Try.prog 3) b ks.length D ∧ Maps.Tidy D ∧ Maps.size D = ks.length ∧
 (∀ s, Maps.has D (lk s) = decide (num ks s ≠ 0)) ∧ ∀ s, D.atKey (lk s) (.lit (.int .i64 0)) = .lit (.int .i64 (num ks s : Int))
theorem MapOK.made (w : World) : MapOK (w.alloc (.map #[] 0)) w.heap.size [] :=
 ⟨.map [], World.ownsMap_made _ _ _ _, Maps.tidy_empty, rfl, fun s => by simp [Maps.has_eq, num], fun s => by
  rw [Maps.atKey_of_not_has (by simp [Maps.has_eq])]
  rfl⟩
theorem MapOK.kept {w w' : World} {b : Nat} {ks : List ByteArray} {row : Option Nat} (h : MapOK w b ks) (hg : w.grownBy w' row) (hne : some b ≠ row) : MapOK w' b ks := by
 obtain ⟨D, h1, h2⟩ := h; exact ⟨D, h1.kept hg hne, h2⟩
theorem MapOK.same {w w' : World} {b : Nat} {ks : List ByteArray} (h : MapOK w b ks) (hb : w'.heap[b]? = w.heap[b]?) : MapOK w' b ks := by
 obtain ⟨D, ⟨es, clock, h1, h3⟩, h2⟩ := h; exact ⟨D, ⟨es, clock, hb.trans h1, h3⟩, h2⟩
theorem MapOK.lt {w : World} {b : Nat} {ks : List ByteArray} (h : MapOK w b ks) : b < w.heap.size := by
 obtain ⟨D, h1, h2⟩ := h; exact h1.lt
theorem keyed : Maps.Keyed Try.prog 9 := Maps.string_keyed Try.underlying9
theorem MapOK.put {w w' : World} {b : Nat} {ks : List ByteArray} {D : DataW Unit} {s : ByteArray} (ht : Maps.Tidy D) (hz : Maps.size D = ks.length)
  (hh : ∀ s, Maps.has D (lk s) = decide (num ks s ≠ 0)) (ha : ∀ s, D.atKey (lk s) (.lit (.int .i64 0)) = .lit (.int .i64 (num ks s : Int))) (hn : num ks s = 0)
  (h : w'.ownsMap Try.prog 9 (plainElem Try.prog 3) b (ks.length + 1) (D.put (lk s) (.lit (.int .i64 ((ks.length + 1 : Nat) : Int))))) : MapOK w' b (ks ++ [s]) := by
 have hk : WideAt.IsKeyLit (lk s) := trivial; refine ⟨_, by rw [List.length_append, List.length_singleton]; exact h, ht.put hk _, ?_, fun t => ?_, fun t => ?_⟩
 ·rw [Maps.size_put ht, hh s, hn, hz, List.length_append]; rfl
 ·rw [num_snoc]; by_cases e : s = t
  ·subst e; rw [Maps.has_put_same ht.isMap hk, hn]
   simp
  ·rw [Maps.has_put_other (fun q => e (lk_inj q).symm), hh t]
   by_cases h2 : num ks t = 0 <;> simp [e, h2]
 ·rw [num_snoc]; by_cases e : s = t
  ·subst e; rw [Maps.atKey_put_same ht.isMap hk, hn]
   simp
  ·rw [Maps.atKey_put_other (fun q => e (lk_inj q).symm), ha t]
   by_cases h2 : num ks t = 0 <;> simp [e, h2]
end Go.Proofs.Ytnafnieocpkkhaa.Nums

set_option linter.unusedVariables false
namespace Go.Proofs.Ytnafnieocpkkhaa
open Go Go.RowKit Go.Proofs.YtnafnieocpkkhaaW.PrintWords Go.Proofs.YtnafnieocpkkhaaW.PrintLast Go.Proofs.YtnafnieocpkkhaaW.PrintMore
theorem zF4 {α : Type} {d : Kd α} {e base : Nat} {w : World} {ok : Nat → Prop} {v : Value} {xs : List α} (g : Nat) {v0 v1 v2 v3 : Value} (h : Kd.R d e w base ok v xs) (hok : ∀ k, ok k → k ≠ g) :
  Kd.R d e ((((w.setCell ⟨g, 0, none⟩ v0).setCell ⟨g, 1, none⟩ v1).setCell ⟨g, 2, none⟩ v2).setCell ⟨g, 3, none⟩ v3) base ok v xs :=
 Kd.R_far (p := ⟨g, 3, none⟩) (Kd.R_far (p := ⟨g, 2, none⟩) (Kd.R_far (p := ⟨g, 1, none⟩) (Kd.R_far (p := ⟨g, 0, none⟩) h hok v0) hok v1) hok v2) hok v3
end Go.Proofs.Ytnafnieocpkkhaa

set_option linter.unusedVariables false
set_option linter.unusedSimpArgs false
namespace Go.Proofs.Ytnafnieocpkkhaa.P
open Go Go.RowKit Go.Proofs.Ytnafnieocpkkhaa Go.Proofs.YtnafnieocpkkhaaW.PrintWords Go.Proofs.YtnafnieocpkkhaaW.PrintLast Go.Proofs.YtnafnieocpkkhaaW.PrintMore
open Go.Proofs.Ytnafnieocpkkhaa.Nums (MapOK num lk)
open Go.Proofs.Ytnafnieocpkkhaa.Bld (IsB)
def tree_Shared.kids (g : S26 → List ByteArray → Option (Nat × List ByteArray)) : List (S26) → List ByteArray → List UInt8 → Option (List ByteArray × List UInt8)
 | [], ks, l => some (ks, l)
 | x :: r, ks, l => (g x ks).bind fun o => if o.1 ≤ 1000000 ∧ l.length + (Lib.uvarint o.1).length ≤ 1000000000000 then tree_Shared.kids g r o.2 (l ++ Lib.uvarint o.1) else none
def tree_Shared.key (l : List UInt8) (t : ByteArray) : ByteArray := ⟨(l ++ Lib.uvarint 0 ++ t.data.toList).toArray⟩
theorem tree_Shared.key_size (l : List UInt8) (t : ByteArray) : (tree_Shared.key l t).size = (l ++ Lib.uvarint 0).length + t.size := by
 have h : (tree_Shared.key l t).size = (l ++ Lib.uvarint 0 ++ t.data.toList).length := by
  unfold tree_Shared.key ByteArray.size; exact List.size_toArray
 rw [h, List.length_append]; rfl
def tree_Shared.go : Nat → S26 → List ByteArray → Option (Nat × List ByteArray)
 | 0, _, _ => none
 | m + 1, n, ks => if 0 ≤ n.f0 ∧ n.f0 ≤ 1000000 ∧ 0 ≤ n.f1.f0 ∧ n.f1.f0 ≤ 1000000 then
   (tree_Shared.kids (tree_Shared.go m) n.f2 ks (Lib.uvarint n.f0.toNat ++ Lib.uvarint n.f1.f0.toNat)).bind fun o => if o.2.length + 1 + n.f1.f1.size ≤ 1000000000000 ∧ o.1.length ≤ 1000000 then
    (if num o.1 (tree_Shared.key o.2 n.f1.f1) = 0 then some (o.1.length + 1, o.1 ++ [tree_Shared.key o.2 n.f1.f1]) else some (num o.1 (tree_Shared.key o.2 n.f1.f1), o.1)) else none
  else none
theorem IsB_fr {B b bm : Nat} {l : List UInt8} {ks : List ByteArray} {w w' : World} (h : IsB B b l w) (hm : MapOK w bm ks) (hg : w.grownBy w' (some bm)) : IsB B b l w' := by
 obtain ⟨D, ⟨es, clock, hmb, _⟩, _⟩ := hm
 have key : ∀ p, Lib.BuilderAtF 114 5 B b p (Lib.byteCells l) w → Lib.BuilderAtF 114 5 B b p (Lib.byteCells l) w' := fun p hp => by
  have hlt := hp.lt; obtain ⟨hB, v, hv, hown, hne⟩ := hp; refine ⟨hB, v, (hg.block b hlt (fun e => ?_)).trans hv, hown.kept hg ?_, hne⟩
  ·injection e with e; subst e; rw [hv] at hmb
   cases hmb
  ·cases e : v.ownBlock with
   | none => exact .inl rfl
   | some k =>
    refine .inr (fun q => ?_); injection q with q; subst q
    obtain ⟨cells, fz, hc⟩ : ∃ cells fz, w.heap[k]? = some (.cells cells 5 fz) := by
     rcases hown.2 with ⟨rfl, _⟩ | ⟨g, cap, cur, fz, rfl, _, hgg, _⟩
     ·cases e
     ·simp only [Value.ownBlock, Option.some.injEq] at e; subst e; exact ⟨_, _, hgg⟩
    rw [hc] at hmb
    cases hmb
 exact h.elim (fun x => .inl (key _ x)) (fun x => .inr (key _ x))
theorem grown_of_below {w w' : World} {row : Option Nat} (h : Below w.heap.size w w') : w.grownBy w' row := ⟨h.os, h.tape, h.output, h.size, fun k hk _ => h.block k hk⟩
theorem grown_trans {w w1 w2 : World} {row : Option Nat} (h : w.grownBy w1 row) (k : w1.grownBy w2 row) : w.grownBy w2 row :=
 ⟨k.os.trans h.os, k.tape.trans h.tape, k.output.trans h.output, Nat.le_trans h.size k.size, fun i hi hn => (k.block i (Nat.lt_of_lt_of_le hi h.size) hn).trans (h.block i hi hn)⟩
theorem vi_len (x : Nat) (h : x ≤ 1000000000) : (Lib.uvarint x).length ≤ 10 := Lib.uvarint_length64 (by omega)
theorem put_z (B b x : Nat) (z : Int) (l : List UInt8) (w : World) (hz : z = (x : Int)) (h : IsB B b l w) (hx : x ≤ 9223372036854775807) (hlen : l.length + (Lib.uvarint x).length ≤ 140737488355328) (hBw : B ≤ w.heap.size) :
  Calls Try.prog 90 #[.int .i64 z, .pointer (some ⟨b, 0, none⟩)] w fun e w' => e = .returned (.tuple #[]) ∧ IsB B b (l ++ Lib.uvarint x) w' ∧ Below B w w' ∧ Lib.OthersKept 5 (some b) w w' := by
 subst hz; exact Bld.put B b x l w h hx hlen hBw
theorem str_z (B b : Nat) (l : List UInt8) (s : ByteArray) (w : World) (hs : (⟨l.toArray⟩ : ByteArray) = s) (h : IsB B b l w) (hBw : B ≤ w.heap.size) :
  Calls Try.prog 84 #[.pointer (some ⟨b, 0, none⟩)] w fun e w' => e = .returned (.string s) ∧ Below B w w' := by
 subst hs; exact Bld.string B b l w h hBw
theorem lit_wf (n : Int) (h0 : 0 ≤ n) (h1 : n ≤ 9223372036854775807) : (Lit.int .i64 n).wf = true := by
 have h := wrap64_wf n
 rwa [show wrap64 n = n by unfold wrap64; omega] at h
theorem num_new {ks : List ByteArray} {s : ByteArray} (h : num ks s = 0) : num (ks ++ [s]) s = ks.length + 1 := by
 rw [Nums.num_snoc, if_neg (by simp [h]), if_pos rfl]
theorem lit_inj {a b : Int} (h : (DataW.lit (.int .i64 a) : DataW Unit) = .lit (.int .i64 b)) : b = a := by
 injection h with h; injection h with _ h; exact h.symm
theorem below_next {w0 w w' : World} {bm : Nat} (h : Below w0.heap.size w0 w) (hg : w.grownBy w' (some bm)) (hb : w0.heap.size ≤ bm) : Below w0.heap.size w0 w' :=
 ⟨hg.os.trans h.os, hg.tape.trans h.tape, hg.output.trans h.output, Nat.le_trans h.size hg.size, fun k hk => (hg.block k (Nat.lt_of_lt_of_le hk h.size) (fun e => by injection e with e; omega)).trans (h.block k hk)⟩
/-- The state of of's walk: its builder's bytes, its box, the map. -/
def tree_Shared.St (w0 W : World) (bm : Nat) (box : Array Value) (l : List UInt8) (ks : List ByteArray) (wc : World) : Prop :=
 IsB (W.heap.size + 1) (W.heap.size + 1) l wc ∧ wc.heap[W.heap.size]? = some (.cells box 26 (0, 0)) ∧ MapOK wc bm ks ∧ Below w0.heap.size w0 wc ∧ W.grownBy wc (some bm) ∧ W.heap.size + 1 ≤ wc.heap.size
section
variable {w0 W : World} {bm : Nat} {box : Array Value} {l l' : List UInt8} {ks ks' : List ByteArray} {wc w' : World}
theorem tree_Shared.St.below (h : tree_Shared.St w0 W bm box l ks wc) (hi : IsB (W.heap.size + 1) (W.heap.size + 1) l' w') (hb : Below (W.heap.size + 1) wc w') (hbm : bm < W.heap.size) (h0 : w0.heap.size ≤ W.heap.size) : tree_Shared.St w0 W bm box l' ks w' := by
 obtain ⟨_, h2, h3, h4, h5, h6⟩ := h; exact ⟨hi, (hb.block _ (by omega)).trans h2, h3.same (hb.block _ (by omega)), h4.trans (hb.mono (by omega)), ⟨hb.os.trans h5.os, hb.tape.trans h5.tape, hb.output.trans h5.output, Nat.le_trans h5.size hb.size, fun k hk hn => (hb.block k (by omega)).trans (h5.block k hk hn)⟩, Nat.le_trans h6 hb.size⟩
theorem tree_Shared.St.alloc (h : tree_Shared.St w0 W bm box l ks wc) (o : Obj) (hbm : bm < W.heap.size) : tree_Shared.St w0 W bm box l ks (wc.alloc o) := by
 obtain ⟨h1, h2, h3, h4, h5, h6⟩ := h; exact ⟨h1.alloc o, blk_alloc h2 o, h3.kept (World.grownBy_alloc wc o none) (by simp), below_alloc h4 o, grown_trans h5 (World.grownBy_alloc wc o _), Nat.le_trans h6 (World.grownBy_alloc wc o none).size⟩
theorem tree_Shared.St.call (h : tree_Shared.St w0 W bm box l ks wc) (hm : MapOK w' bm ks') (hb : Below w0.heap.size w0 w') (hg : wc.grownBy w' (some bm)) (hbm : bm < W.heap.size) : tree_Shared.St w0 W bm box l ks' w' := by
 obtain ⟨h1, h2, h3, h4, h5, h6⟩ := h; exact ⟨IsB_fr h1 h3 hg, (hg.block _ (blk_lt h2) (fun e => by injection e with e; omega)).trans h2, hm, hb, grown_trans h5 hg, Nat.le_trans h6 hg.size⟩
end
/-- What of does at a Node, the map in block bm. -/
def tree_Shared.Holds (w0 : World) (bm m : Nat) : Prop := ∀ (n : S26) (A : Option Addr) (cc : Nat) (ks : List ByteArray) (r : Nat × List ByteArray) (W : World), n.f2.length ≤ cc → Kd.C k26 w0 A n.f2.length n.f2 → Below w0.heap.size w0 W → MapOK W bm ks → w0.heap.size ≤ bm → tree_Shared.go m n ks = some r →
 Calls Try.prog 73 #[.map (some bm), .agg #[.int .i64 n.f0, .int .i64 n.f1.f0, .string n.f1.f1, .slice A n.f2.length cc]] W fun e W' => e = .returned (.int .i64 (r.1 : Int)) ∧ MapOK W' bm r.2 ∧ Below w0.heap.size w0 W' ∧ W.grownBy W' (some bm)
set_option maxHeartbeats 16000000 in
set_option maxRecDepth 100000 in
theorem tree_Shared.of_ok (w0 : World) (bm : Nat) : ∀ m, tree_Shared.Holds w0 bm m
 | 0 => by intro n A cc ks r W _ _ _ _ _ h; simp [tree_Shared.go] at h
 | m + 1 => by
  have IH := tree_Shared.of_ok w0 bm m; intro n A cc ks r W hcc hC hB hM hbm h; have hu26 := Try.underlying26; rw [tree_Shared.go] at h; obtain ⟨⟨hk0, hk1, ht0, ht1⟩, h⟩ := Ut.ite_some h; obtain ⟨⟨ks2, l2⟩, hkids, h⟩ := Option.bind_eq_some_iff.mp h; obtain ⟨⟨hl2, hks2⟩, h⟩ := Ut.ite_some h
  obtain ⟨w1, hw1⟩ : ∃ w1, w1 = W.alloc (.cells #[.int .i64 n.f0, .int .i64 n.f1.f0, .string n.f1.f1, .slice A n.f2.length cc] 26) := ⟨_, rfl⟩
  have hs1 : w1.heap.size = W.heap.size + 1 := (by rw [hw1]; simp)
  obtain ⟨w2, hw2⟩ : ∃ w2, w2 = w1.alloc (.cells #[.pointer none, .slice none 0 0] 114) := ⟨_, rfl⟩
  have hIH := IH; unfold tree_Shared.Holds at hIH; have HIH := Aside0.mk hIH; have HC := Aside0.mk hC; have HK := Aside0.mk hkids; have HR := Aside0.mk h
  have hB1 : Below w0.heap.size w0 w1 := (by rw [hw1]; exact below_alloc hB _)
  have hB2 : Below w0.heap.size w0 w2 := (by rw [hw2]; exact below_alloc hB1 _)
  have hG1 : W.grownBy w1 (some bm) := (by rw [hw1]; exact World.grownBy_alloc W _ _)
  have hG2 : w1.grownBy w2 (some bm) := (by rw [hw2]; exact World.grownBy_alloc w1 _ _)
  have hM1 : MapOK w1 bm ks := (by rw [hw1]; exact hM.kept (World.grownBy_alloc W _ none) (by simp))
  have hM2 : MapOK w2 bm ks := (by rw [hw2]; exact hM1.kept (World.grownBy_alloc w1 _ none) (by simp))
  have HI2 : Aside0 (IsB (W.heap.size + 1) (W.heap.size + 1) [] w2) := ⟨by rw [hw2, ← hs1]; exact Bld.IsB.new (Nat.le_refl _)⟩
  have BK1 : w1.heap[W.heap.size]? = some (.cells #[.int .i64 n.f0, .int .i64 n.f1.f0, .string n.f1.f1, .slice A n.f2.length cc] 26 (0, 0)) := (by rw [hw1]; exact blk_new _ _)
  have BK2 : Aside0 (w2.heap[W.heap.size]? = some (.cells #[.int .i64 n.f0, .int .i64 n.f1.f0, .string n.f1.f1, .slice A n.f2.length cc] 26 (0, 0))) := ⟨by rw [hw2]; exact blk_alloc BK1 _⟩
  have hsz2 : W.heap.size + 1 ≤ w2.heap.size := (by rw [← hs1]; exact hG2.size)
  have HB2 := Aside0.mk hB2; have HG1 := Aside0.mk hG1; have HG2 := Aside0.mk hG2; have HM2 := Aside0.mk hM2; have HW1 := Aside0.mk hw1; have HM := Aside0.mk hM; have HB := Aside0.mk hB; have HW2 := Aside0.mk hw2; have HS2 := Aside0.mk hsz2; have hmax : n.f2.length ≤ 9223372036854775807 := hC.2.1; clear IH hIH hC hB hM h hkids hw1 hw2 hB1 hB2 hG1 hG2 hM1 hM2 BK1 hsz2 hs1; go_enter Try.func73, Try.ntmps73
  go_upto_region 2 with fail
  rw [← HW1.out, ← HW2.out]; have hbW := HM.out.lt; have h0W := HB.out.size
  have ST2 : Aside0 (tree_Shared.St w0 W bm #[.int .i64 n.f0, .int .i64 n.f1.f0, .string n.f1.f1, .slice A n.f2.length cc] [] ks w2) := ⟨HI2.out, BK2.out, HM2.out, HB2.out, grown_trans HG1.out HG2.out, HS2.out⟩
  obtain ⟨p0, p1, p2, p3⟩ := zc4 BK2; clear HI2 BK2 HM2 HB2 HG1 HG2 HW1 HW2
  go_upto_region 4 with (go_at_call 90; refine (put_z (W.heap.size + 1) (W.heap.size + 1) n.f0.toNat n.f0 [] _ (by omega) ST2.out.1 (by omega) (by rw [List.length_nil]; have := vi_len n.f0.toNat (by omega); omega) ST2.out.2.2.2.2.2).mono ?_; rintro e w3 ⟨rfl, hi3, hb3, ho3⟩; have ST3 := Aside0.mk (ST2.out.below hi3 hb3 hbW h0W); clear hi3 hb3 ho3)
  rw [List.nil_append] at ST3; clear p0 p1 p2 p3 ST2; obtain ⟨p0, p1, p2, p3⟩ := zc4 (⟨ST3.out.2.1⟩ : Aside0 _)
  go_upto_region 5 with (go_at_call 90; refine (put_z (W.heap.size + 1) (W.heap.size + 1) n.f1.f0.toNat n.f1.f0 (Lib.uvarint n.f0.toNat) _ (by omega) ST3.out.1 (by omega) (by have := vi_len n.f0.toNat (by omega); have := vi_len n.f1.f0.toNat (by omega); omega) ST3.out.2.2.2.2.2).mono ?_; rintro e w4 ⟨rfl, hi4, hb4, ho4⟩; have ST4 := Aside0.mk (ST3.out.below hi4 hb4 hbW h0W); clear hi4 hb4 ho4)
  clear p0 p1 p2 p3 ST3; obtain ⟨p0, p1, p2, p3⟩ := zc4 (⟨ST4.out.2.1⟩ : Aside0 _); go_wp2_with fail; clear p0 p1 p2 p3
  go_loopg [25] n.f2.length (fun kq v25 w' => ∃ (i : Nat) (kc : List ByteArray) (lc : List UInt8), v25 = .int .i64 (i : Int) ∧ Aside0 (i + kq = n.f2.length) ∧ Aside0 (tree_Shared.kids (tree_Shared.go m) (n.f2.drop i) kc lc = some (ks2, l2)) ∧ Aside0 (tree_Shared.St w0 W bm #[.int .i64 n.f0, .int .i64 n.f1.f0, .string n.f1.f1, .slice A n.f2.length cc] lc kc w'))
  case atStart => exact ⟨0, ks, _, rfl, ⟨by omega⟩, HK, ST4⟩
  case round =>
   clear HK ST4; obtain ⟨i, kc, lc, rfl, HN, HK, ST⟩ := hrel; have HBr := Aside0.mk ST.out.2.2.2.1; by_cases hlt : i < n.f2.length
   ·have hd1 : decide ((i : Int) < (n.f2.length : Int)) = true := decide_eq_true (by omega); have H := HK.out; rw [List.drop_eq_getElem_cons hlt] at H; simp only [tree_Shared.kids] at H; obtain ⟨o, ho, H4⟩ := Option.bind_eq_some_iff.mp H; obtain ⟨⟨ho1, hol⟩, H5⟩ := Ut.ite_some H4; clear H H4
    have hrd : rd_T26 n.f2 (i : Int) = n.f2[i] := (by simp [rd_T26, hlt])
    obtain ⟨ad, A3, c3, e, hx0, hx1, hx2, hx3, hl3, hC3⟩ := at_T26 HC.out (i : Int) (by omega) (by omega); rw [hrd] at hx0 hx1 hx2 hx3 hl3 hC3; rw [Int.toNat_natCast] at hx0 hx1 hx2 hx3; subst e; replace hx0 := (HBr.out.cell (World.block_lt_of_cell? w0 _ hx0)).trans hx0; replace hx1 := (HBr.out.cell (World.block_lt_of_cell? w0 _ hx1)).trans hx1; replace hx2 := (HBr.out.cell (World.block_lt_of_cell? w0 _ hx2)).trans hx2; replace hx3 := (HBr.out.cell (World.block_lt_of_cell? w0 _ hx3)).trans hx3; clear hrd; generalize n.f2[i] = x at *; have HO := Aside0.mk ho; have HK2 := Aside0.mk H5; have HC3 := Aside0.mk (And.intro hC3 hl3); clear ho H5 HK hC3 hl3
    cases gk with
    | zero => exact absurd hlt (by have := HN.out; omega)
    | succ kq' =>
    go_upto_region 8 with fail
    clear hx0 hx1 hx2 hx3 hd1; have HX2 := Aside0.mk (blk_new wr (.cells #[.int .i64 x.f0, .int .i64 x.f1.f0, .string x.f1.f1, .slice A3 x.f2.length c3] 26)); have STa := Aside0.mk (ST.out.alloc (.cells #[.int .i64 x.f0, .int .i64 x.f1.f0, .string x.f1.f1, .slice A3 x.f2.length c3] 26) hbW); generalize wr.alloc (.cells #[.int .i64 x.f0, .int .i64 x.f1.f0, .string x.f1.f1, .slice A3 x.f2.length c3] 26) = W2 at *; obtain ⟨q0, q1, q2, q3⟩ := zc4 HX2
    go_wp2_with (first | (go_at_call 73; refine (HIH.out x A3 c3 kc o W2 HC3.out.2 HC3.out.1 STa.out.2.2.2.1 STa.out.2.2.1 hbm HO.out).mono ?_; rintro e w5 ⟨rfl, hm5, hb5, hg5⟩; have ST5 := Aside0.mk (STa.out.call hm5 hb5 hg5 hbW); clear hm5 hb5 hg5) | (go_at_call 90; refine (put_z (W.heap.size + 1) (W.heap.size + 1) o.1 (o.1 : Int) lc _ rfl ST5.out.1 (by omega) (by omega) ST5.out.2.2.2.2.2).mono ?_; rintro e w6 ⟨rfl, hi6, hb6, ho6⟩; have ST6 := Aside0.mk (ST5.out.below hi6 hb6 hbW h0W); clear hi6 hb6 ho6))
    go_roundg kq'
    case measure => omega
    case rel => exact ⟨i + 1, o.2, _, by go_num, ⟨by have := HN.out; omega⟩, HK2, ST6⟩
   ·have hd1 : decide ((i : Int) < (n.f2.length : Int)) = false := decide_eq_false (by omega); have H := HK.out; rw [List.drop_of_length_le (by omega)] at H; simp only [tree_Shared.kids, Option.some.injEq, Prod.mk.injEq] at H; obtain ⟨rfl, rfl⟩ := H; obtain ⟨p0, p1, p2, p3⟩ := zc4 (⟨ST.out.2.1⟩ : Aside0 _)
    go_upto_region 11 with (go_at_call 90; refine (put_z (W.heap.size + 1) (W.heap.size + 1) 0 0 lc _ rfl ST.out.1 (by omega) (by have := vi_len 0 (by omega); omega) ST.out.2.2.2.2.2).mono ?_; rintro e w6 ⟨rfl, hi6, hb6, ho6⟩; have ST6 := Aside0.mk (ST.out.below hi6 hb6 hbW h0W); clear hi6 hb6 ho6)
    have hmapT : Try.prog.underlying 102 = some (.map 9 3) := (by kernel_rfl)
    clear p0 p1 p2 p3 ST; obtain ⟨p0, p1, p2, p3⟩ := zc4 (⟨ST6.out.2.1⟩ : Aside0 _)
    have HLL : Aside0 ((lc ++ Lib.uvarint 0).length + n.f1.f1.size ≤ 1000000000020) := ⟨by rw [List.length_append]; have := vi_len 0 (by omega); omega⟩
    obtain ⟨key, hkey⟩ : ∃ key : ByteArray, key = tree_Shared.key lc n.f1.f1 := ⟨_, rfl⟩
    have HKY : Aside0 ((⟨(lc ++ Lib.uvarint 0 ++ n.f1.f1.data.toList).toArray⟩ : ByteArray) = key) := ⟨hkey.symm⟩
    have HKQ := Aside0.mk hkey; clear hkey
    go_upto_region 13 with (first | (go_at_call 92; refine (Bld.write (W.heap.size + 1) (W.heap.size + 1) (lc ++ Lib.uvarint 0) n.f1.f1 _ ST6.out.1 (by have := HLL.out; omega) ST6.out.2.2.2.2.2).mono ?_; rintro e w7 ⟨rfl, hi7, hb7, ho7⟩; have ST7 := Aside0.mk (ST6.out.below hi7 hb7 hbW h0W); clear hi7 hb7 ho7) | (go_at_call 84; refine (str_z (W.heap.size + 1) (W.heap.size + 1) _ key _ HKY.out ST7.out.1 ST7.out.2.2.2.2.2).mono ?_; rintro e w8 ⟨rfl, hb8⟩; have HM8 := Aside0.mk (ST7.out.2.2.1.same (hb8.block _ (by omega))); have HB8 := Aside0.mk (ST7.out.2.2.2.1.trans (hb8.mono (by omega))); have HG8 : Aside0 (W.grownBy w8 (some bm)) := ⟨⟨hb8.os.trans ST7.out.2.2.2.2.1.os, hb8.tape.trans ST7.out.2.2.2.2.1.tape, hb8.output.trans ST7.out.2.2.2.2.1.output, Nat.le_trans ST7.out.2.2.2.2.1.size hb8.size, fun k hk hn => (hb8.block k (by omega)).trans (ST7.out.2.2.2.2.1.block k hk hn)⟩⟩; clear hb8))
    clear p0 p1 p2 p3 ST6
    have hks : key.size ≤ 2000000000000 := by
     rw [HKQ.out, tree_Shared.key_size]; have := HLL.out
     omega
    have hko : keyOf Try.prog 9 (.string key) = some (lk key) := Go.WideMaps.keyOf_string_mk Try.underlying9 (by unfold maxLen; omega)
    have HR2 : (if num kc key = 0 then some (kc.length + 1, kc ++ [key]) else some (num kc key, kc)) = some r := (by rw [HKQ.out]; exact HR.out)
    obtain ⟨D, hD1, hD2, hD3, hD4, hD5⟩ := HM8.out; obtain ⟨v8, ps8, hrun8, hv8⟩ := hD1.look_ok Nums.keyed hmapT (z := .int .i64 0) (by rfl) (plainElem_int Try.underlying3 (by decide)) hko; by_cases hn : num kc key = 0
    ·have hb0 : Maps.has D (lk key) = false := (by rw [hD4, hn]; rfl)
     rw [hb0] at hrun8; rw [if_pos hn] at HR2; obtain rfl := Option.some.inj HR2; have hlen8 := hD1.len hmapT 3; rw [hD3] at hlen8; have hval : plainElem (H := Unit) Try.prog 3 (.int .i64 ((kc.length : Int) + 1)) = some (.lit (.int .i64 ((kc.length + 1 : Nat) : Int)), []) := plainElem_int Try.underlying3 (lit_wf _ (by omega) (by omega)); obtain ⟨w9, hrun9, hown9, hgrow9⟩ := hD1.update Nums.keyed hmapT (by unfold maxLen; omega) hko hval; have HM9 := Aside0.mk (MapOK.put (w := w8) hD2 hD3 hD4 hD5 hn hown9); have HG9 := Aside0.mk hgrow9; obtain ⟨D9, hE1, hE2, hE3, hE4, hE5⟩ := HM9.out; obtain ⟨c, hrunc, hatc, _⟩ := hE1.lookup_int Nums.keyed hmapT Try.underlying3 (by rfl) hko; have hc : c = ((kc.length + 1 : Nat) : Int) := lit_inj ((congrArg (fun q : Nat => (DataW.lit (.int .i64 (q : Int)) : DataW Unit)) (num_new hn)).symm.trans ((hE5 key).symm.trans hatc)); subst hc; clear hE1 hE2 hE3 hE4 hE5 hgrow9 hown9; go_wp2_with fail; go_ret; exact ⟨rfl, HM9.out, below_next HB8.out HG9.out hbm, grown_trans HG8.out HG9.out⟩
    ·have hb0 : Maps.has D (lk key) = true := (by rw [hD4]; simp [hn])
     rw [hb0] at hrun8; rw [if_neg hn] at HR2; obtain rfl := Option.some.inj HR2; obtain ⟨c, hrunc, hatc, _⟩ := hD1.lookup_int Nums.keyed hmapT Try.underlying3 (by rfl) hko
     have hc : c = (num kc key : Int) := by
      rw [hD5] at hatc; injection hatc with h1; injection h1 with h1 h2; exact h2.symm
     subst hc; go_wp2_with fail; go_ret; exact ⟨rfl, HM8.out, HB8.out, HG8.out⟩
end Go.Proofs.Ytnafnieocpkkhaa.P

namespace Go.Proofs.Ytnafnieocpkkhaa.P
open Go.RowKit Go.Proofs.YtnafnieocpkkhaaW.PrintWords Go.Proofs.YtnafnieocpkkhaaW.PrintLast Go.Proofs.YtnafnieocpkkhaaW.PrintMore
attribute [local go_sem] max2_int min2_int max_two min_two max_three min_three max_four min_four
set_option linter.unusedVariables false
set_option linter.unusedSimpArgs false

theorem eqA23 (d : Nat) (w : World) (x0 y0 : Int) (x1 y1 : ByteArray) :
  (Op.equalIn (d + 2) 23 (.agg #[.int .i64 x0, .string x1]) (.agg #[.int .i64 y0, .string y1])).run Try.prog w = .ok (x0 == y0 && (x1.toList == y1.toList)) w := by
 refine eqA_of Try.underlying23 (by kernel_rfl) ?_; refine eqf_cons (by rfl) (by go_simp; rfl) (by go_simp; rfl) (by go_simp) ?_; exact eqf_last (by rfl) (by go_simp; rfl) (by go_simp; rfl) (by go_simp)
end Go.Proofs.Ytnafnieocpkkhaa.P

namespace Go.Proofs.Ytnafnieocpkkhaa.P
open Go.RowKit Go.Proofs.YtnafnieocpkkhaaW.PrintWords Go.Proofs.YtnafnieocpkkhaaW.PrintLast Go.Proofs.YtnafnieocpkkhaaW.PrintMore
attribute [local go_sem] max2_int min2_int max_two min_two max_three min_three max_four min_four
set_option linter.unusedVariables false
set_option linter.unusedSimpArgs false

def token_joined.go : List (S23) → List UInt8 → Option (ByteArray × Bool)
 | [], acc => some (⟨acc.toArray⟩, decide ((acc.length : Int) ≤ 20000))
 | t :: r, acc => if (acc.length : Int) > 20000 then some (⟨#[]⟩, false) else if (t.f1.size : Int) > 20000 then some (⟨#[]⟩, false) else token_joined.go r (acc ++ t.f1.data.toList)
def token_joined.f (l0 : List (S23)) : Option (ByteArray × Bool) := token_joined.go l0 []
set_option maxHeartbeats 8000000 in
set_option maxRecDepth 100000 in
theorem token_joined.calls (A0 : Option Addr) (c0 : Nat) (l0 : List (S23)) (r1 : ByteArray) (r2 : Bool) (w : World) (hr0 : Kd.C k23 w A0 l0.length l0) (hc0 : l0.length ≤ c0) (h : token_joined.f l0 = some (r1, r2)) :
  Calls Try.prog 112 #[.slice A0 l0.length c0] w fun e w' => e = .returned (.tuple #[.string r1, .bool r2]) ∧ Below w.heap.size w w' := by
 have hu := Try.underlying23; have HH := Aside0.mk (show token_joined.go l0 [] = some (r1, r2) from h); have HR := Aside0.mk hr0; have hB0 : Below w.heap.size w (w.alloc (.cells #[.pointer none, .slice none 0 0] 114)) := below_alloc (Below.refl _ _) _; have HB0 := Aside0.mk hB0; have HI0 := Aside0.mk (show Bld.IsB w.heap.size w.heap.size [] (w.alloc (.cells #[.pointer none, .slice none 0 0] 114)) from Bld.IsB.new (Nat.le_refl _)); clear h hr0 hB0; go_enter Try.func112, Try.ntmps112; go_wp2_with fail
 go_loopg [9] l0.length (fun kq v9 w' => ∃ (i : Nat) (acc : List UInt8), v9 = .int .i64 (i : Int) ∧ Aside0 (i + kq = l0.length) ∧ Aside0 (token_joined.go (l0.drop i) acc = some (r1, r2)) ∧ Aside0 (acc.length ≤ 40000) ∧ Aside0 (Bld.IsB w.heap.size w.heap.size acc w') ∧ Aside0 (Below w.heap.size w w'))
 case atStart => exact ⟨0, [], rfl, ⟨by omega⟩, HH, ⟨by simp⟩, HI0, HB0⟩
 case round =>
  clear HH HI0 HB0; obtain ⟨i, acc, rfl, HK, HA, HL, HI, HB⟩ := hrel; have hmax : l0.length ≤ 9223372036854775807 := HR.out.2.1; by_cases hlt : i < l0.length
  ·have hd : decide ((i : Int) < (l0.length : Int)) = true := decide_eq_true (by omega); have H := HA.out; rw [List.drop_eq_getElem_cons hlt] at H; simp only [token_joined.go] at H
   have hrd : rd_T23 l0 (i : Int) = l0[i] := (by simp [rd_T23, hlt])
   obtain ⟨ad, e, hx0, hx1⟩ := at_T23 HR.out (i : Int) (by omega) (by omega); rw [hrd, Int.toNat_natCast] at hx0 hx1
   cases e
   replace hx0 := zh HB hx0; replace hx1 := zh HB hx1; clear hrd HA; generalize l0[i] = x at *; have HI1 := Aside0.mk (HI.out.alloc (.cells #[.int .i64 x.f0, .string x.f1] 23)); have HB1 := Aside0.mk (below_alloc HB.out (.cells #[.int .i64 x.f0, .string x.f1] 23)); by_cases c1 : (acc.length : Int) > 20000
   ·rw [if_pos c1] at H; simp only [Option.some.injEq, Prod.mk.injEq] at H; obtain ⟨rfl, rfl⟩ := H; have c1b : decide ((20000 : Int) < (acc.length : Int)) = true := decide_eq_true (by omega)
    have hle : ((Lib.byteCells acc).length : Int) = (acc.length : Int) := (by rw [Bld.byteCells_length])
    clear c1
    go_wp2_with (go_at_call 115; refine (Try.Builder_Len_f w.heap.size w.heap.size (Lib.byteCells acc) _ HI1.out).mono ?_; rintro e w2 ⟨rfl, rfl⟩; rw [hle])
    go_ret2
    exact ⟨rfl, HB1.out⟩
   ·rw [if_neg c1] at H; have c1b : decide ((20000 : Int) < (acc.length : Int)) = false := decide_eq_false (by omega)
    have hle : ((Lib.byteCells acc).length : Int) = (acc.length : Int) := (by rw [Bld.byteCells_length])
    by_cases c2 : (x.f1.size : Int) > 20000
    ·rw [if_pos c2] at H; simp only [Option.some.injEq, Prod.mk.injEq] at H; obtain ⟨rfl, rfl⟩ := H; have c2b : decide ((20000 : Int) < (x.f1.size : Int)) = true := decide_eq_true (by omega); clear c1 c2
     go_wp2_with (go_at_call 115; refine (Try.Builder_Len_f w.heap.size w.heap.size (Lib.byteCells acc) _ HI1.out).mono ?_; rintro e w2 ⟨rfl, rfl⟩; rw [hle])
     go_ret2
     exact ⟨rfl, HB1.out⟩
    ·rw [if_neg c2] at H; have c2b : decide ((20000 : Int) < (x.f1.size : Int)) = false := decide_eq_false (by omega); have HA2 := Aside0.mk H
     have hac : (acc ++ x.f1.data.toList).length ≤ 40000 := (by rw [List.length_append, Ut.size_data]; omega)
     have HAC := Aside0.mk hac
     have hlen : acc.length + x.f1.size ≤ 140737488355328 := (by omega)
     clear c1 c2 H hac
     cases gk with
     | zero => exact absurd hlt (by have := HK.out; omega)
     | succ kq' =>
     go_wp2_with (first | (go_at_call 115; refine (Try.Builder_Len_f w.heap.size w.heap.size (Lib.byteCells acc) _ HI1.out).mono ?_; rintro e w2 ⟨rfl, rfl⟩; rw [hle]) | (go_at_call 92; refine (Bld.write w.heap.size w.heap.size acc x.f1 _ HI1.out hlen (below_size HB1.out)).mono ?_; rintro e w3 ⟨rfl, hI3, hb3, _⟩; have HI3 := Aside0.mk hI3; have HB3 := Aside0.mk (HB1.out.trans hb3); clear hI3 hb3))
     go_roundg kq'
     case measure => omega
     case rel => exact ⟨i + 1, _, by go_num, ⟨by have := HK.out; omega⟩, HA2, HAC, HI3, HB3⟩
  ·have hd : decide ((i : Int) < (l0.length : Int)) = false := decide_eq_false (by omega); have H := HA.out; rw [List.drop_of_length_le (by have := HK.out; omega)] at H; simp only [token_joined.go, Option.some.injEq, Prod.mk.injEq] at H; obtain ⟨rfl, rfl⟩ := H
   have hle : ((Lib.byteCells acc).length : Int) = (acc.length : Int) := (by rw [Bld.byteCells_length])
   go_wp2_with (first | (go_at_call 84; refine (Try.Builder_String_any_f w.heap.size w.heap.size acc _ HI.out (below_size HB.out)).mono ?_; rintro e w2 ⟨rfl, hI2, hb2⟩; have HI2 := Aside0.mk hI2; have HB2 := Aside0.mk (HB.out.trans hb2); clear hI2 hb2) | (go_at_call 115; refine (Try.Builder_Len_f w.heap.size w.heap.size (Lib.byteCells acc) _ HI2.out).mono ?_; rintro e w3 ⟨rfl, rfl⟩; rw [hle]))
   go_ret2
   exact ⟨rfl, HB2.out⟩

end Go.Proofs.Ytnafnieocpkkhaa.P

namespace Go.Proofs.Ytnafnieocpkkhaa.P
open Go.RowKit Go.Proofs.YtnafnieocpkkhaaW.PrintWords Go.Proofs.YtnafnieocpkkhaaW.PrintLast Go.Proofs.YtnafnieocpkkhaaW.PrintMore
attribute [local go_sem] max2_int min2_int max_two min_two max_three min_three max_four min_four
set_option linter.unusedVariables false
set_option linter.unusedSimpArgs false

def strings_IndexByte.f (a0 : ByteArray) (a1 : Int) : Option (Int) := some (Lib.indexByte a0.data.toList a1.toNat.toUInt8)
set_option maxRecDepth 100000 in
theorem strings_IndexByte.calls (a0 : ByteArray) (a1 : Int) (r : Int) (w : World) (h : strings_IndexByte.f a0 a1 = some r) :
  Calls Try.prog 128 #[.string a0, .int .u8 a1] w fun e w' => e = .returned (.int .i64 r) ∧ Drawn0 w w' := by
 simp only [strings_IndexByte.f, Option.some.injEq] at h; subst h; refine (Try.strings_IndexByte a0 a1 w).mono ?_; rintro e w' ⟨rfl, rfl⟩; exact ⟨rfl, Drawn0.refl _⟩

end Go.Proofs.Ytnafnieocpkkhaa.P

namespace Go.Proofs.Ytnafnieocpkkhaa.P
open Go.RowKit Go.Proofs.YtnafnieocpkkhaaW.PrintWords Go.Proofs.YtnafnieocpkkhaaW.PrintLast Go.Proofs.YtnafnieocpkkhaaW.PrintMore
attribute [local go_sem] max2_int min2_int max_two min_two max_three min_three max_four min_four
set_option linter.unusedVariables false
set_option linter.unusedSimpArgs false

/-! ### token_line: function 118 -/
def token_line.f (a0 : ByteArray) : Option (Int) := (strings_IndexByte.f a0 10).bind fun t138 => (if t138 ≥ 0 then (some t138) else (some (a0.size : Int)))
set_option maxHeartbeats 8000000 in
set_option maxRecDepth 100000 in
theorem token_line.calls (a0 : ByteArray) (r : Int) (w : World) (h : token_line.f a0 = some r) :
  Calls Try.prog 118 #[.string a0] w fun e w' => e = .returned (.int .i64 r) ∧ Drawn0 w w' := by
 have H : ((strings_IndexByte.f a0 10).bind fun t138 => (if t138 ≥ 0 then (some t138) else (some (a0.size : Int)))) = some r := h; clear h; replace H := zo H; obtain ⟨t138, A2, H⟩ := H; by_cases c3 : t138 ≥ 0
 ·rw [if_pos c3] at H; have c3b0 := decide_eq_true c3; clear c3; obtain rfl := Option.some.inj H; go_enter Try.func118, Try.ntmps118
  go_wp2_with (first | ((with_reducible refine zG 128 rfl ?_); refine zg 5 Try.func128 ((strings_IndexByte.calls a0 10 t138 _ A2.out).mono ?_); rintro e w' ⟨rfl, ⟨nd, rfl⟩⟩; refine ⟨_, rfl, ?_⟩))
  go_ret; exact ⟨zs, zX⟩
 ·rw [if_neg c3] at H; have c3b0 := decide_eq_false c3; clear c3; obtain rfl := Option.some.inj H; go_enter Try.func118, Try.ntmps118
  go_wp2_with (first | ((with_reducible refine zG 128 rfl ?_); refine zg 5 Try.func128 ((strings_IndexByte.calls a0 10 t138 _ A2.out).mono ?_); rintro e w' ⟨rfl, ⟨nd, rfl⟩⟩; refine ⟨_, rfl, ?_⟩))
  go_ret; exact ⟨zs, zX⟩

/-! ### token_isBlank: function 119 -/
def token_isBlank.f (a0 : Int) : Option (Bool) := if a0 = 32 then (some true) else (if a0 = 9 then (some true) else (if a0 = 10 then (some true) else (some (a0 == 13))))
set_option maxHeartbeats 8000000 in
set_option maxRecDepth 100000 in
theorem token_isBlank.calls (a0 : Int) (r : Bool) (w : World) (h : token_isBlank.f a0 = some r) :
  Calls Try.prog 119 #[.int .u8 a0] w fun e w' => e = .returned (.bool r) ∧ Drawn0 w w' := by
 have H : (if a0 = 32 then (some true) else (if a0 = 9 then (some true) else (if a0 = 10 then (some true) else (some (a0 == 13))))) = some r := h; clear h; by_cases c2 : a0 = 32
 ·rw [if_pos c2] at H; have c2b0 : (a0 == 32) = true := beq_iff_eq.mpr c2; have c2b1 : (a0 != 32) = false := bne_eq_false_iff_eq.mpr c2; clear c2; obtain rfl := Option.some.inj H; go_enter Try.func119, Try.ntmps119; go_wp2; go_ret; exact ⟨zs, zX⟩
 ·rw [if_neg c2] at H; have c2b0 : (a0 == 32) = false := beq_eq_false_iff_ne.mpr c2; have c2b1 : (a0 != 32) = true := bne_iff_ne.mpr c2; by_cases c3 : a0 = 9
  ·rw [if_pos c3] at H; have c3b0 : (a0 == 9) = true := beq_iff_eq.mpr c3; have c3b1 : (a0 != 9) = false := bne_eq_false_iff_eq.mpr c3; clear c3; obtain rfl := Option.some.inj H; go_enter Try.func119, Try.ntmps119; go_wp2; go_ret; exact ⟨zs, zX⟩
  ·rw [if_neg c3] at H; have c3b0 : (a0 == 9) = false := beq_eq_false_iff_ne.mpr c3; have c3b1 : (a0 != 9) = true := bne_iff_ne.mpr c3; by_cases c4 : a0 = 10
   ·rw [if_pos c4] at H; have c4b0 : (a0 == 10) = true := beq_iff_eq.mpr c4; have c4b1 : (a0 != 10) = false := bne_eq_false_iff_eq.mpr c4; clear c4; obtain rfl := Option.some.inj H; go_enter Try.func119, Try.ntmps119; go_wp2; go_ret; exact ⟨zs, zX⟩
   ·rw [if_neg c4] at H; have c4b0 : (a0 == 10) = false := beq_eq_false_iff_ne.mpr c4; have c4b1 : (a0 != 10) = true := bne_iff_ne.mpr c4; obtain rfl := Option.some.inj H; go_enter Try.func119, Try.ntmps119; go_wp2; go_ret; exact ⟨zs, zX⟩

/-! ### stringslite_HasPrefix: function 129 -/
def stringslite_HasPrefix.f (a0 : ByteArray) (a1 : ByteArray) : Option (Bool) := if (a0.size : Int) ≥ (a1.size : Int) then (if 0 ≤ (a1.size : Int) then (if (a1.size : Int) ≤ (a0.size : Int) then (some ((a0.extract 0 ((a1.size : Int) : Int).toNat).toList == a1.toList)) else (none)) else (none)) else (some false)
set_option maxHeartbeats 8000000 in
set_option maxRecDepth 100000 in
theorem stringslite_HasPrefix.calls (a0 : ByteArray) (a1 : ByteArray) (r : Bool) (w : World) (h : stringslite_HasPrefix.f a0 a1 = some r) :
  Calls Try.prog 129 #[.string a0, .string a1] w fun e w' => e = .returned (.bool r) ∧ Drawn0 w w' := by
 have H : (if (a0.size : Int) ≥ (a1.size : Int) then (if 0 ≤ (a1.size : Int) then (if (a1.size : Int) ≤ (a0.size : Int) then (some ((a0.extract 0 ((a1.size : Int) : Int).toNat).toList == a1.toList)) else (none)) else (none)) else (some false)) = some r := h; clear h; by_cases c3 : (a0.size : Int) ≥ (a1.size : Int)
 ·rw [if_pos c3] at H; have c3b0 := decide_eq_true c3; have c3b1 : decide (a1.size ≤ a0.size) = true := decide_eq_true (Int.ofNat_le.mp c3); clear c3; replace H := zi2 H; obtain ⟨c4b0, c4b1, H⟩ := H; replace H := zi2 H; obtain ⟨c5b0, c5b1, H⟩ := H; obtain rfl := Option.some.inj H; go_enter Try.func129, Try.ntmps129; go_wp2; go_ret; exact ⟨zs, zX⟩
 ·rw [if_neg c3] at H; have c3b0 := decide_eq_false c3; have c3b1 : decide (a1.size ≤ a0.size) = false := decide_eq_false (fun h => c3 (Int.ofNat_le.mpr h)); clear c3; obtain rfl := Option.some.inj H; go_enter Try.func129, Try.ntmps129; go_wp2; go_ret; exact ⟨zs, zX⟩

/-! ### strings_HasPrefix: function 121 -/
def strings_HasPrefix.f (a0 : ByteArray) (a1 : ByteArray) : Option (Bool) := (stringslite_HasPrefix.f a0 a1).bind fun t139 => (some t139)
set_option maxHeartbeats 8000000 in
set_option maxRecDepth 100000 in
theorem strings_HasPrefix.calls (a0 : ByteArray) (a1 : ByteArray) (r : Bool) (w : World) (h : strings_HasPrefix.f a0 a1 = some r) :
  Calls Try.prog 121 #[.string a0, .string a1] w fun e w' => e = .returned (.bool r) ∧ Drawn0 w w' := by
 have H : ((stringslite_HasPrefix.f a0 a1).bind fun t139 => (some t139)) = some r := h; clear h; replace H := zo H; obtain ⟨t139, A3, H⟩ := H; obtain rfl := Option.some.inj H; go_enter Try.func121, Try.ntmps121
 go_wp2_with (first | ((with_reducible refine zG 129 rfl ?_); refine zg 7 Try.func129 ((stringslite_HasPrefix.calls a0 a1 t139 _ A3.out).mono ?_); rintro e w' ⟨rfl, ⟨nd, rfl⟩⟩; refine ⟨_, rfl, ?_⟩))
 go_ret; exact ⟨zs, zX⟩

/-! ### token_isLetter: function 122 -/
def token_isLetter.f (a0 : Int) : Option (Bool) := if a0 = 95 then (some true) else (if (Go.bits .or .u8 a0 32) ≥ 97 then (some (decide ((Go.bits .or .u8 a0 32) ≤ 122))) else (some false))
set_option maxHeartbeats 8000000 in
set_option maxRecDepth 100000 in
theorem token_isLetter.calls (a0 : Int) (r : Bool) (w : World) (h : token_isLetter.f a0 = some r) :
  Calls Try.prog 122 #[.int .u8 a0] w fun e w' => e = .returned (.bool r) ∧ Drawn0 w w' := by
 have H : (if a0 = 95 then (some true) else (if (Go.bits .or .u8 a0 32) ≥ 97 then (some (decide ((Go.bits .or .u8 a0 32) ≤ 122))) else (some false))) = some r := h; clear h; by_cases c2 : a0 = 95
 ·rw [if_pos c2] at H; have c2b0 : (a0 == 95) = true := beq_iff_eq.mpr c2; have c2b1 : (a0 != 95) = false := bne_eq_false_iff_eq.mpr c2; clear c2; obtain rfl := Option.some.inj H; go_enter Try.func122, Try.ntmps122; go_wp2; go_ret; exact ⟨zs, zX⟩
 ·rw [if_neg c2] at H; have c2b0 : (a0 == 95) = false := beq_eq_false_iff_ne.mpr c2; have c2b1 : (a0 != 95) = true := bne_iff_ne.mpr c2; by_cases c3 : (Go.bits .or .u8 a0 32) ≥ 97
  ·rw [if_pos c3] at H; have c3b0 := decide_eq_true c3; clear c3; obtain rfl := Option.some.inj H; go_enter Try.func122, Try.ntmps122; go_wp2; go_ret; exact ⟨zs, zX⟩
  ·rw [if_neg c3] at H; have c3b0 := decide_eq_false c3; clear c3; obtain rfl := Option.some.inj H; go_enter Try.func122, Try.ntmps122; go_wp2; go_ret; exact ⟨zs, zX⟩

/-! ### token_isDigit: function 124 -/
def token_isDigit.f (a0 : Int) : Option (Bool) := if a0 ≥ 48 then (some (decide (a0 ≤ 57))) else (some false)
set_option maxHeartbeats 8000000 in
set_option maxRecDepth 100000 in
theorem token_isDigit.calls (a0 : Int) (r : Bool) (w : World) (h : token_isDigit.f a0 = some r) :
  Calls Try.prog 124 #[.int .u8 a0] w fun e w' => e = .returned (.bool r) ∧ Drawn0 w w' := by
 have H : (if a0 ≥ 48 then (some (decide (a0 ≤ 57))) else (some false)) = some r := h; clear h; by_cases c2 : a0 ≥ 48
 ·rw [if_pos c2] at H; have c2b0 := decide_eq_true c2; clear c2; obtain rfl := Option.some.inj H; go_enter Try.func124, Try.ntmps124; go_wp2; go_ret; exact ⟨zs, zX⟩
 ·rw [if_neg c2] at H; have c2b0 := decide_eq_false c2; clear c2; obtain rfl := Option.some.inj H; go_enter Try.func124, Try.ntmps124; go_wp2; go_ret; exact ⟨zs, zX⟩

/-! ### token_isWord: function 125 -/
def token_isWord.f (a0 : ByteArray) : Option (Bool) := if a0.toList = ([100, 101, 102] : List UInt8) then (some true) else (if a0.toList = ([101, 108, 115, 101] : List UInt8) then (some true) else (if a0.toList = ([102, 97, 108, 115, 101] : List UInt8) then (some true) else (if a0.toList = ([102, 110] : List UInt8) then (some true) else (if a0.toList = ([105, 102] : List UInt8) then (some true) else (if a0.toList = ([105, 109, 112, 111, 114, 116] : List UInt8) then (some true) else (if a0.toList = ([105, 110] : List UInt8) then (some true) else (if a0.toList = ([108, 101, 116] : List UInt8) then (some true) else (if a0.toList = ([109, 97, 116, 99, 104] : List UInt8) then (some true) else (if a0.toList = ([116, 104, 101, 110] : List UInt8) then (some true) else (if a0.toList = ([116, 114, 117, 101] : List UInt8) then (some true) else (if a0.toList = ([116, 121, 112, 101] : List UInt8) then (some true) else (some false))))))))))))
set_option maxHeartbeats 8000000 in
set_option maxRecDepth 100000 in
theorem token_isWord.calls (a0 : ByteArray) (r : Bool) (w : World) (h : token_isWord.f a0 = some r) :
  Calls Try.prog 125 #[.string a0] w fun e w' => e = .returned (.bool r) ∧ Drawn0 w w' := by
 have H : (if a0.toList = ([100, 101, 102] : List UInt8) then (some true) else (if a0.toList = ([101, 108, 115, 101] : List UInt8) then (some true) else (if a0.toList = ([102, 97, 108, 115, 101] : List UInt8) then (some true) else (if a0.toList = ([102, 110] : List UInt8) then (some true) else (if a0.toList = ([105, 102] : List UInt8) then (some true) else (if a0.toList = ([105, 109, 112, 111, 114, 116] : List UInt8) then (some true) else (if a0.toList = ([105, 110] : List UInt8) then (some true) else (if a0.toList = ([108, 101, 116] : List UInt8) then (some true) else (if a0.toList = ([109, 97, 116, 99, 104] : List UInt8) then (some true) else (if a0.toList = ([116, 104, 101, 110] : List UInt8) then (some true) else (if a0.toList = ([116, 114, 117, 101] : List UInt8) then (some true) else (if a0.toList = ([116, 121, 112, 101] : List UInt8) then (some true) else (some false))))))))))))) = some r := h; clear h; by_cases c2 : a0.toList = ([100, 101, 102] : List UInt8)
 ·rw [if_pos c2] at H; have c2b0 : (a0.toList == ([100, 101, 102] : List UInt8)) = true := beq_iff_eq.mpr c2; have c2b1 : (a0.toList != ([100, 101, 102] : List UInt8)) = false := bne_eq_false_iff_eq.mpr c2; clear c2; obtain rfl := Option.some.inj H; go_enter Try.func125, Try.ntmps125; go_wp2; go_ret; exact ⟨zs, zX⟩
 ·rw [if_neg c2] at H; have c2b0 : (a0.toList == ([100, 101, 102] : List UInt8)) = false := beq_eq_false_iff_ne.mpr c2; have c2b1 : (a0.toList != ([100, 101, 102] : List UInt8)) = true := bne_iff_ne.mpr c2; by_cases c3 : a0.toList = ([101, 108, 115, 101] : List UInt8)
  ·rw [if_pos c3] at H; have c3b0 : (a0.toList == ([101, 108, 115, 101] : List UInt8)) = true := beq_iff_eq.mpr c3; have c3b1 : (a0.toList != ([101, 108, 115, 101] : List UInt8)) = false := bne_eq_false_iff_eq.mpr c3; clear c3; obtain rfl := Option.some.inj H; go_enter Try.func125, Try.ntmps125; go_wp2; go_ret; exact ⟨zs, zX⟩
  ·rw [if_neg c3] at H; have c3b0 : (a0.toList == ([101, 108, 115, 101] : List UInt8)) = false := beq_eq_false_iff_ne.mpr c3; have c3b1 : (a0.toList != ([101, 108, 115, 101] : List UInt8)) = true := bne_iff_ne.mpr c3; by_cases c4 : a0.toList = ([102, 97, 108, 115, 101] : List UInt8)
   ·rw [if_pos c4] at H; have c4b0 : (a0.toList == ([102, 97, 108, 115, 101] : List UInt8)) = true := beq_iff_eq.mpr c4; have c4b1 : (a0.toList != ([102, 97, 108, 115, 101] : List UInt8)) = false := bne_eq_false_iff_eq.mpr c4; clear c4; obtain rfl := Option.some.inj H; go_enter Try.func125, Try.ntmps125; go_wp2; go_ret; exact ⟨zs, zX⟩
   ·rw [if_neg c4] at H; have c4b0 : (a0.toList == ([102, 97, 108, 115, 101] : List UInt8)) = false := beq_eq_false_iff_ne.mpr c4; have c4b1 : (a0.toList != ([102, 97, 108, 115, 101] : List UInt8)) = true := bne_iff_ne.mpr c4; by_cases c5 : a0.toList = ([102, 110] : List UInt8)
    ·rw [if_pos c5] at H; have c5b0 : (a0.toList == ([102, 110] : List UInt8)) = true := beq_iff_eq.mpr c5; have c5b1 : (a0.toList != ([102, 110] : List UInt8)) = false := bne_eq_false_iff_eq.mpr c5; clear c5; obtain rfl := Option.some.inj H; go_enter Try.func125, Try.ntmps125; go_wp2; go_ret; exact ⟨zs, zX⟩
    ·rw [if_neg c5] at H; have c5b0 : (a0.toList == ([102, 110] : List UInt8)) = false := beq_eq_false_iff_ne.mpr c5; have c5b1 : (a0.toList != ([102, 110] : List UInt8)) = true := bne_iff_ne.mpr c5; by_cases c6 : a0.toList = ([105, 102] : List UInt8)
     ·rw [if_pos c6] at H; have c6b0 : (a0.toList == ([105, 102] : List UInt8)) = true := beq_iff_eq.mpr c6; have c6b1 : (a0.toList != ([105, 102] : List UInt8)) = false := bne_eq_false_iff_eq.mpr c6; clear c6; obtain rfl := Option.some.inj H; go_enter Try.func125, Try.ntmps125; go_wp2; go_ret; exact ⟨zs, zX⟩
     ·rw [if_neg c6] at H; have c6b0 : (a0.toList == ([105, 102] : List UInt8)) = false := beq_eq_false_iff_ne.mpr c6; have c6b1 : (a0.toList != ([105, 102] : List UInt8)) = true := bne_iff_ne.mpr c6; by_cases c7 : a0.toList = ([105, 109, 112, 111, 114, 116] : List UInt8)
      ·rw [if_pos c7] at H; have c7b0 : (a0.toList == ([105, 109, 112, 111, 114, 116] : List UInt8)) = true := beq_iff_eq.mpr c7; have c7b1 : (a0.toList != ([105, 109, 112, 111, 114, 116] : List UInt8)) = false := bne_eq_false_iff_eq.mpr c7; clear c7; obtain rfl := Option.some.inj H; go_enter Try.func125, Try.ntmps125; go_wp2; go_ret; exact ⟨zs, zX⟩
      ·rw [if_neg c7] at H; have c7b0 : (a0.toList == ([105, 109, 112, 111, 114, 116] : List UInt8)) = false := beq_eq_false_iff_ne.mpr c7; have c7b1 : (a0.toList != ([105, 109, 112, 111, 114, 116] : List UInt8)) = true := bne_iff_ne.mpr c7; by_cases c8 : a0.toList = ([105, 110] : List UInt8)
       ·rw [if_pos c8] at H; have c8b0 : (a0.toList == ([105, 110] : List UInt8)) = true := beq_iff_eq.mpr c8; have c8b1 : (a0.toList != ([105, 110] : List UInt8)) = false := bne_eq_false_iff_eq.mpr c8; clear c8; obtain rfl := Option.some.inj H; go_enter Try.func125, Try.ntmps125; go_wp2; go_ret; exact ⟨zs, zX⟩
       ·rw [if_neg c8] at H; have c8b0 : (a0.toList == ([105, 110] : List UInt8)) = false := beq_eq_false_iff_ne.mpr c8; have c8b1 : (a0.toList != ([105, 110] : List UInt8)) = true := bne_iff_ne.mpr c8; by_cases c9 : a0.toList = ([108, 101, 116] : List UInt8)
        ·rw [if_pos c9] at H; have c9b0 : (a0.toList == ([108, 101, 116] : List UInt8)) = true := beq_iff_eq.mpr c9; have c9b1 : (a0.toList != ([108, 101, 116] : List UInt8)) = false := bne_eq_false_iff_eq.mpr c9; clear c9; obtain rfl := Option.some.inj H; go_enter Try.func125, Try.ntmps125; go_wp2; go_ret; exact ⟨zs, zX⟩
        ·rw [if_neg c9] at H; have c9b0 : (a0.toList == ([108, 101, 116] : List UInt8)) = false := beq_eq_false_iff_ne.mpr c9; have c9b1 : (a0.toList != ([108, 101, 116] : List UInt8)) = true := bne_iff_ne.mpr c9; by_cases c10 : a0.toList = ([109, 97, 116, 99, 104] : List UInt8)
         ·rw [if_pos c10] at H; have c10b0 : (a0.toList == ([109, 97, 116, 99, 104] : List UInt8)) = true := beq_iff_eq.mpr c10; have c10b1 : (a0.toList != ([109, 97, 116, 99, 104] : List UInt8)) = false := bne_eq_false_iff_eq.mpr c10; clear c10; obtain rfl := Option.some.inj H; go_enter Try.func125, Try.ntmps125; go_wp2; go_ret; exact ⟨zs, zX⟩
         ·rw [if_neg c10] at H; have c10b0 : (a0.toList == ([109, 97, 116, 99, 104] : List UInt8)) = false := beq_eq_false_iff_ne.mpr c10; have c10b1 : (a0.toList != ([109, 97, 116, 99, 104] : List UInt8)) = true := bne_iff_ne.mpr c10; by_cases c11 : a0.toList = ([116, 104, 101, 110] : List UInt8)
          ·rw [if_pos c11] at H; have c11b0 : (a0.toList == ([116, 104, 101, 110] : List UInt8)) = true := beq_iff_eq.mpr c11; have c11b1 : (a0.toList != ([116, 104, 101, 110] : List UInt8)) = false := bne_eq_false_iff_eq.mpr c11; clear c11; obtain rfl := Option.some.inj H; go_enter Try.func125, Try.ntmps125; go_wp2; go_ret; exact ⟨zs, zX⟩
          ·rw [if_neg c11] at H; have c11b0 : (a0.toList == ([116, 104, 101, 110] : List UInt8)) = false := beq_eq_false_iff_ne.mpr c11; have c11b1 : (a0.toList != ([116, 104, 101, 110] : List UInt8)) = true := bne_iff_ne.mpr c11; by_cases c12 : a0.toList = ([116, 114, 117, 101] : List UInt8)
           ·rw [if_pos c12] at H; have c12b0 : (a0.toList == ([116, 114, 117, 101] : List UInt8)) = true := beq_iff_eq.mpr c12; have c12b1 : (a0.toList != ([116, 114, 117, 101] : List UInt8)) = false := bne_eq_false_iff_eq.mpr c12; clear c12; obtain rfl := Option.some.inj H; go_enter Try.func125, Try.ntmps125; go_wp2; go_ret; exact ⟨zs, zX⟩
           ·rw [if_neg c12] at H; have c12b0 : (a0.toList == ([116, 114, 117, 101] : List UInt8)) = false := beq_eq_false_iff_ne.mpr c12; have c12b1 : (a0.toList != ([116, 114, 117, 101] : List UInt8)) = true := bne_iff_ne.mpr c12; by_cases c13 : a0.toList = ([116, 121, 112, 101] : List UInt8)
            ·rw [if_pos c13] at H; have c13b0 : (a0.toList == ([116, 121, 112, 101] : List UInt8)) = true := beq_iff_eq.mpr c13; have c13b1 : (a0.toList != ([116, 121, 112, 101] : List UInt8)) = false := bne_eq_false_iff_eq.mpr c13; clear c13; obtain rfl := Option.some.inj H; go_enter Try.func125, Try.ntmps125; go_wp2; go_ret; exact ⟨zs, zX⟩
            ·rw [if_neg c13] at H; have c13b0 : (a0.toList == ([116, 121, 112, 101] : List UInt8)) = false := beq_eq_false_iff_ne.mpr c13; have c13b1 : (a0.toList != ([116, 121, 112, 101] : List UInt8)) = true := bne_iff_ne.mpr c13; obtain rfl := Option.some.inj H; go_enter Try.func125, Try.ntmps125; go_wp2; go_ret; exact ⟨zs, zX⟩

/-! ### token_quoted: function 126 -/
def token_quoted.l0 : Nat → ByteArray → Int → Option (Int)
 | 0, _, _ => none
 | k + 1, x0, x3 => if x3 < (x0.size : Int) then (if 0 ≤ x3 then (if (bt x0 x3) = 34 then (some (wrap64 (x3 + 1))) else (if (bt x0 x3) = 10 then (some 0) else (if (bt x0 x3) = 92 then (if (wrap64 (x3 + 1)) = (x0.size : Int) then (some 0) else (if 0 ≤ (wrap64 (x3 + 1)) then (if (wrap64 (x3 + 1)) < (x0.size : Int) then ((strings_IndexByte.f (⟨#[110, 34, 92]⟩ : ByteArray) (bt x0 (wrap64 (x3 + 1)))).bind fun t140 => (if t140 < 0 then (some 0) else (token_quoted.l0 k x0 (wrap64 ((wrap64 (x3 + 1)) + 1))))) else (none)) else (none))) else (token_quoted.l0 k x0 (wrap64 (x3 + 1)))))) else (none)) else (some 0)
def token_quoted.f (k : Nat) (a0 : ByteArray) : Option (Int) := token_quoted.l0 k a0 1
set_option maxHeartbeats 8000000 in
set_option maxRecDepth 100000 in
theorem token_quoted.calls (k : Nat) (a0 : ByteArray) (r : Int) (w : World) (h : token_quoted.f k a0 = some r) :
  Calls Try.prog 126 #[.string a0] w fun e w' => e = .returned (.int .i64 r) ∧ Drawn0 w w' := by
 have H : (token_quoted.l0 k a0 1) = some r := h; clear h; have H' := Aside0.mk H; clear H; go_enter Try.func126, Try.ntmps126; go_wp2
 go_loopg [3] k (fun kq v3 w' => ∃ (x3_1 : Int), v3 = .int .i64 x3_1 ∧ Aside0 (token_quoted.l0 kq a0 x3_1 = some r) ∧ Aside0 (kq ≤ k) ∧ Drawn0 w w')
 case atStart => exact ⟨(1), zs, H', ⟨Nat.le_refl _⟩, zX⟩
 case round =>
  clear H'; obtain ⟨x3_1, rfl, HA, HK1, ⟨m1, rfl⟩⟩ := hrel
  cases gk with
  | zero => exact absurd HA.out (by simp [token_quoted.l0])
  | succ k1 =>
   have H := HA.out; clear HA; simp only [token_quoted.l0] at H; by_cases c2 : x3_1 < (a0.size : Int)
   ·rw [if_pos c2] at H; have c2b0 := decide_eq_true c2; clear c2; replace H := zi1 H; obtain ⟨c3b0, H⟩ := H; by_cases c5 : (bt a0 x3_1) = 34
    ·rw [if_pos c5] at H; have c5b0 : ((bt a0 x3_1) == 34) = true := beq_iff_eq.mpr c5; have c5b1 : ((bt a0 x3_1) != 34) = false := bne_eq_false_iff_eq.mpr c5; clear c5; obtain rfl := Option.some.inj H; have p4 : (0 ≤ (x3_1 : Int)) = True := zT; have q4 : (x3_1 < (a0.size : Int)) = True := zT; have hx4 := bt_at a0 x3_1; go_wp2; go_ret; exact ⟨zs, zX⟩
    ·rw [if_neg c5] at H; have c5b0 : ((bt a0 x3_1) == 34) = false := beq_eq_false_iff_ne.mpr c5; have c5b1 : ((bt a0 x3_1) != 34) = true := bne_iff_ne.mpr c5; by_cases c6 : (bt a0 x3_1) = 10
     ·rw [if_pos c6] at H; have c6b0 : ((bt a0 x3_1) == 10) = true := beq_iff_eq.mpr c6; have c6b1 : ((bt a0 x3_1) != 10) = false := bne_eq_false_iff_eq.mpr c6; clear c6; obtain rfl := Option.some.inj H; have p4 : (0 ≤ (x3_1 : Int)) = True := zT; have q4 : (x3_1 < (a0.size : Int)) = True := zT; have hx4 := bt_at a0 x3_1; go_wp2; go_ret; exact ⟨zs, zX⟩
     ·rw [if_neg c6] at H; have c6b0 : ((bt a0 x3_1) == 10) = false := beq_eq_false_iff_ne.mpr c6; have c6b1 : ((bt a0 x3_1) != 10) = true := bne_iff_ne.mpr c6; by_cases c7 : (bt a0 x3_1) = 92
      ·rw [if_pos c7] at H; have c7b0 : ((bt a0 x3_1) == 92) = true := beq_iff_eq.mpr c7; have c7b1 : ((bt a0 x3_1) != 92) = false := bne_eq_false_iff_eq.mpr c7; clear c7; by_cases c8 : (wrap64 (x3_1 + 1)) = (a0.size : Int)
       ·rw [if_pos c8] at H; have c8b0 : ((wrap64 (x3_1 + 1)) == (a0.size : Int)) = true := beq_iff_eq.mpr c8; have c8b1 : ((wrap64 (x3_1 + 1)) != (a0.size : Int)) = false := bne_eq_false_iff_eq.mpr c8; clear c8; obtain rfl := Option.some.inj H; have p4 : (0 ≤ (x3_1 : Int)) = True := zT; have q4 : (x3_1 < (a0.size : Int)) = True := zT; have hx4 := bt_at a0 x3_1; go_wp2; go_ret; exact ⟨zs, zX⟩
       ·rw [if_neg c8] at H; have c8b0 : ((wrap64 (x3_1 + 1)) == (a0.size : Int)) = false := beq_eq_false_iff_ne.mpr c8; have c8b1 : ((wrap64 (x3_1 + 1)) != (a0.size : Int)) = true := bne_iff_ne.mpr c8
        obtain ⟨ji9, hji9⟩ : ∃ j_ : Int, (wrap64 (x3_1 + 1)) = j_ := ⟨_, rfl⟩
        replace H : (if 0 ≤ (ji9) then (if (ji9) < (a0.size : Int) then ((strings_IndexByte.f (⟨#[110, 34, 92]⟩ : ByteArray) (bt a0 (ji9))).bind fun t140 => (if t140 < 0 then (some 0) else (token_quoted.l0 k1 a0 (wrap64 ((ji9) + 1))))) else (none)) else (none)) = some r := by first | (rw [hji9] at H; exact H) | (simp only [hji9] at H ⊢; exact H)
        (try rw [hji9] at c8b0)
        (try rw [hji9] at c8b1)
        have hji9w : (IntKind.i64.wrap (x3_1 + 1)) = ji9 := (i64_w _).trans hji9; replace H := zi1 H; obtain ⟨c10b0, H⟩ := H; replace H := zi1 H; obtain ⟨c11b0, H⟩ := H; replace H := zo H; obtain ⟨t140, A13, H⟩ := H; by_cases c14 : t140 < 0
        ·rw [if_pos c14] at H; have c14b0 := decide_eq_true c14; clear c14; obtain rfl := Option.some.inj H; have p4 : (0 ≤ (x3_1 : Int)) = True := zT; have q4 : (x3_1 < (a0.size : Int)) = True := zT; have hx4 := bt_at a0 x3_1; have p12 : (0 ≤ ((ji9) : Int)) = True := zT; have q12 : ((ji9) < (a0.size : Int)) = True := zT; have hx12 := bt_at a0 (ji9)
         go_wp2_with (first | (go_at_call 128; (with_reducible refine (strings_IndexByte.calls (⟨#[110, 34, 92]⟩ : ByteArray) (bt a0 (ji9)) t140 _ A13.out).mono ?_); rintro e w' ⟨rfl, ⟨nd, rfl⟩⟩))
         go_ret; exact ⟨by first | rfl | (simp; done) | (simp only [← hji9] <;> (first | rfl | simp)) | (simp [*]; done), zX⟩
        ·rw [if_neg c14] at H; have c14b0 := decide_eq_false c14; clear c14; have H' := Aside0.mk H; clear H; have p4 : (0 ≤ (x3_1 : Int)) = True := zT; have q4 : (x3_1 < (a0.size : Int)) = True := zT; have hx4 := bt_at a0 x3_1; have p12 : (0 ≤ ((ji9) : Int)) = True := zT; have q12 : ((ji9) < (a0.size : Int)) = True := zT; have hx12 := bt_at a0 (ji9)
         go_wp2_with (first | (go_at_call 128; (with_reducible refine (strings_IndexByte.calls (⟨#[110, 34, 92]⟩ : ByteArray) (bt a0 (ji9)) t140 _ A13.out).mono ?_); rintro e w' ⟨rfl, ⟨nd, rfl⟩⟩))
         go_roundg k1
         case measure => have := HK1.out; omega
         case rel => exact ⟨(wrap64 ((ji9) + 1)), (by first | rfl | (simp; done) | (simp only [← hji9] <;> (first | rfl | simp)) | (simp [*]; done)), H', zk, zX⟩
      ·rw [if_neg c7] at H; have c7b0 : ((bt a0 x3_1) == 92) = false := beq_eq_false_iff_ne.mpr c7; have c7b1 : ((bt a0 x3_1) != 92) = true := bne_iff_ne.mpr c7; have H' := Aside0.mk H; clear H; have p4 : (0 ≤ (x3_1 : Int)) = True := zT; have q4 : (x3_1 < (a0.size : Int)) = True := zT; have hx4 := bt_at a0 x3_1; go_wp2
       go_roundg k1
       case measure => have := HK1.out; omega
       case rel => exact ⟨(wrap64 (x3_1 + 1)), zs, H', zk, zX⟩
   ·rw [if_neg c2] at H; have c2b0 := decide_eq_false c2; clear c2; obtain rfl := Option.some.inj H; go_wp2; go_ret; exact ⟨zs, zX⟩

/-! ### token_isSign: function 130 -/
def token_isSign.f (a0 : ByteArray) : Option (Bool) := if a0.toList = ([33] : List UInt8) then (some true) else (if a0.toList = ([38, 38] : List UInt8) then (some true) else (if a0.toList = ([40] : List UInt8) then (some true) else (if a0.toList = ([41] : List UInt8) then (some true) else (if a0.toList = ([42] : List UInt8) then (some true) else (if a0.toList = ([43] : List UInt8) then (some true) else (if a0.toList = ([44] : List UInt8) then (some true) else (if a0.toList = ([45] : List UInt8) then (some true) else (if a0.toList = ([45, 62] : List UInt8) then (some true) else (if a0.toList = ([46] : List UInt8) then (some true) else (if a0.toList = ([58] : List UInt8) then (some true) else (if a0.toList = ([59] : List UInt8) then (some true) else (if a0.toList = ([60] : List UInt8) then (some true) else (if a0.toList = ([61] : List UInt8) then (some true) else (if a0.toList = ([61, 61] : List UInt8) then (some true) else (if a0.toList = ([61, 62] : List UInt8) then (some true) else (if a0.toList = ([91] : List UInt8) then (some true) else (if a0.toList = ([93] : List UInt8) then (some true) else (if a0.toList = ([123] : List UInt8) then (some true) else (if a0.toList = ([124] : List UInt8) then (some true) else (if a0.toList = ([124, 124] : List UInt8) then (some true) else (if a0.toList = ([125] : List UInt8) then (some true) else (some false))))))))))))))))))))))
set_option maxHeartbeats 8000000 in
set_option maxRecDepth 100000 in
theorem token_isSign.calls (a0 : ByteArray) (r : Bool) (w : World) (h : token_isSign.f a0 = some r) :
  Calls Try.prog 130 #[.string a0] w fun e w' => e = .returned (.bool r) ∧ Drawn0 w w' := by
 have H : (if a0.toList = ([33] : List UInt8) then (some true) else (if a0.toList = ([38, 38] : List UInt8) then (some true) else (if a0.toList = ([40] : List UInt8) then (some true) else (if a0.toList = ([41] : List UInt8) then (some true) else (if a0.toList = ([42] : List UInt8) then (some true) else (if a0.toList = ([43] : List UInt8) then (some true) else (if a0.toList = ([44] : List UInt8) then (some true) else (if a0.toList = ([45] : List UInt8) then (some true) else (if a0.toList = ([45, 62] : List UInt8) then (some true) else (if a0.toList = ([46] : List UInt8) then (some true) else (if a0.toList = ([58] : List UInt8) then (some true) else (if a0.toList = ([59] : List UInt8) then (some true) else (if a0.toList = ([60] : List UInt8) then (some true) else (if a0.toList = ([61] : List UInt8) then (some true) else (if a0.toList = ([61, 61] : List UInt8) then (some true) else (if a0.toList = ([61, 62] : List UInt8) then (some true) else (if a0.toList = ([91] : List UInt8) then (some true) else (if a0.toList = ([93] : List UInt8) then (some true) else (if a0.toList = ([123] : List UInt8) then (some true) else (if a0.toList = ([124] : List UInt8) then (some true) else (if a0.toList = ([124, 124] : List UInt8) then (some true) else (if a0.toList = ([125] : List UInt8) then (some true) else (some false))))))))))))))))))))))) = some r := h; clear h; by_cases c2 : a0.toList = ([33] : List UInt8)
 ·rw [if_pos c2] at H; have c2b0 : (a0.toList == ([33] : List UInt8)) = true := beq_iff_eq.mpr c2; have c2b1 : (a0.toList != ([33] : List UInt8)) = false := bne_eq_false_iff_eq.mpr c2; clear c2; obtain rfl := Option.some.inj H; go_enter Try.func130, Try.ntmps130; go_wp2; go_ret; exact ⟨zs, zX⟩
 ·rw [if_neg c2] at H; have c2b0 : (a0.toList == ([33] : List UInt8)) = false := beq_eq_false_iff_ne.mpr c2; have c2b1 : (a0.toList != ([33] : List UInt8)) = true := bne_iff_ne.mpr c2; by_cases c3 : a0.toList = ([38, 38] : List UInt8)
  ·rw [if_pos c3] at H; have c3b0 : (a0.toList == ([38, 38] : List UInt8)) = true := beq_iff_eq.mpr c3; have c3b1 : (a0.toList != ([38, 38] : List UInt8)) = false := bne_eq_false_iff_eq.mpr c3; clear c3; obtain rfl := Option.some.inj H; go_enter Try.func130, Try.ntmps130; go_wp2; go_ret; exact ⟨zs, zX⟩
  ·rw [if_neg c3] at H; have c3b0 : (a0.toList == ([38, 38] : List UInt8)) = false := beq_eq_false_iff_ne.mpr c3; have c3b1 : (a0.toList != ([38, 38] : List UInt8)) = true := bne_iff_ne.mpr c3; by_cases c4 : a0.toList = ([40] : List UInt8)
   ·rw [if_pos c4] at H; have c4b0 : (a0.toList == ([40] : List UInt8)) = true := beq_iff_eq.mpr c4; have c4b1 : (a0.toList != ([40] : List UInt8)) = false := bne_eq_false_iff_eq.mpr c4; clear c4; obtain rfl := Option.some.inj H; go_enter Try.func130, Try.ntmps130; go_wp2; go_ret; exact ⟨zs, zX⟩
   ·rw [if_neg c4] at H; have c4b0 : (a0.toList == ([40] : List UInt8)) = false := beq_eq_false_iff_ne.mpr c4; have c4b1 : (a0.toList != ([40] : List UInt8)) = true := bne_iff_ne.mpr c4; by_cases c5 : a0.toList = ([41] : List UInt8)
    ·rw [if_pos c5] at H; have c5b0 : (a0.toList == ([41] : List UInt8)) = true := beq_iff_eq.mpr c5; have c5b1 : (a0.toList != ([41] : List UInt8)) = false := bne_eq_false_iff_eq.mpr c5; clear c5; obtain rfl := Option.some.inj H; go_enter Try.func130, Try.ntmps130; go_wp2; go_ret; exact ⟨zs, zX⟩
    ·rw [if_neg c5] at H; have c5b0 : (a0.toList == ([41] : List UInt8)) = false := beq_eq_false_iff_ne.mpr c5; have c5b1 : (a0.toList != ([41] : List UInt8)) = true := bne_iff_ne.mpr c5; by_cases c6 : a0.toList = ([42] : List UInt8)
     ·rw [if_pos c6] at H; have c6b0 : (a0.toList == ([42] : List UInt8)) = true := beq_iff_eq.mpr c6; have c6b1 : (a0.toList != ([42] : List UInt8)) = false := bne_eq_false_iff_eq.mpr c6; clear c6; obtain rfl := Option.some.inj H; go_enter Try.func130, Try.ntmps130; go_wp2; go_ret; exact ⟨zs, zX⟩
     ·rw [if_neg c6] at H; have c6b0 : (a0.toList == ([42] : List UInt8)) = false := beq_eq_false_iff_ne.mpr c6; have c6b1 : (a0.toList != ([42] : List UInt8)) = true := bne_iff_ne.mpr c6; by_cases c7 : a0.toList = ([43] : List UInt8)
      ·rw [if_pos c7] at H; have c7b0 : (a0.toList == ([43] : List UInt8)) = true := beq_iff_eq.mpr c7; have c7b1 : (a0.toList != ([43] : List UInt8)) = false := bne_eq_false_iff_eq.mpr c7; clear c7; obtain rfl := Option.some.inj H; go_enter Try.func130, Try.ntmps130; go_wp2; go_ret; exact ⟨zs, zX⟩
      ·rw [if_neg c7] at H; have c7b0 : (a0.toList == ([43] : List UInt8)) = false := beq_eq_false_iff_ne.mpr c7; have c7b1 : (a0.toList != ([43] : List UInt8)) = true := bne_iff_ne.mpr c7; by_cases c8 : a0.toList = ([44] : List UInt8)
       ·rw [if_pos c8] at H; have c8b0 : (a0.toList == ([44] : List UInt8)) = true := beq_iff_eq.mpr c8; have c8b1 : (a0.toList != ([44] : List UInt8)) = false := bne_eq_false_iff_eq.mpr c8; clear c8; obtain rfl := Option.some.inj H; go_enter Try.func130, Try.ntmps130; go_wp2; go_ret; exact ⟨zs, zX⟩
       ·rw [if_neg c8] at H; have c8b0 : (a0.toList == ([44] : List UInt8)) = false := beq_eq_false_iff_ne.mpr c8; have c8b1 : (a0.toList != ([44] : List UInt8)) = true := bne_iff_ne.mpr c8; by_cases c9 : a0.toList = ([45] : List UInt8)
        ·rw [if_pos c9] at H; have c9b0 : (a0.toList == ([45] : List UInt8)) = true := beq_iff_eq.mpr c9; have c9b1 : (a0.toList != ([45] : List UInt8)) = false := bne_eq_false_iff_eq.mpr c9; clear c9; obtain rfl := Option.some.inj H; go_enter Try.func130, Try.ntmps130; go_wp2; go_ret; exact ⟨zs, zX⟩
        ·rw [if_neg c9] at H; have c9b0 : (a0.toList == ([45] : List UInt8)) = false := beq_eq_false_iff_ne.mpr c9; have c9b1 : (a0.toList != ([45] : List UInt8)) = true := bne_iff_ne.mpr c9; by_cases c10 : a0.toList = ([45, 62] : List UInt8)
         ·rw [if_pos c10] at H; have c10b0 : (a0.toList == ([45, 62] : List UInt8)) = true := beq_iff_eq.mpr c10; have c10b1 : (a0.toList != ([45, 62] : List UInt8)) = false := bne_eq_false_iff_eq.mpr c10; clear c10; obtain rfl := Option.some.inj H; go_enter Try.func130, Try.ntmps130; go_wp2; go_ret; exact ⟨zs, zX⟩
         ·rw [if_neg c10] at H; have c10b0 : (a0.toList == ([45, 62] : List UInt8)) = false := beq_eq_false_iff_ne.mpr c10; have c10b1 : (a0.toList != ([45, 62] : List UInt8)) = true := bne_iff_ne.mpr c10; by_cases c11 : a0.toList = ([46] : List UInt8)
          ·rw [if_pos c11] at H; have c11b0 : (a0.toList == ([46] : List UInt8)) = true := beq_iff_eq.mpr c11; have c11b1 : (a0.toList != ([46] : List UInt8)) = false := bne_eq_false_iff_eq.mpr c11; clear c11; obtain rfl := Option.some.inj H; go_enter Try.func130, Try.ntmps130; go_wp2; go_ret; exact ⟨zs, zX⟩
          ·rw [if_neg c11] at H; have c11b0 : (a0.toList == ([46] : List UInt8)) = false := beq_eq_false_iff_ne.mpr c11; have c11b1 : (a0.toList != ([46] : List UInt8)) = true := bne_iff_ne.mpr c11; by_cases c12 : a0.toList = ([58] : List UInt8)
           ·rw [if_pos c12] at H; have c12b0 : (a0.toList == ([58] : List UInt8)) = true := beq_iff_eq.mpr c12; have c12b1 : (a0.toList != ([58] : List UInt8)) = false := bne_eq_false_iff_eq.mpr c12; clear c12; obtain rfl := Option.some.inj H; go_enter Try.func130, Try.ntmps130; go_wp2; go_ret; exact ⟨zs, zX⟩
           ·rw [if_neg c12] at H; have c12b0 : (a0.toList == ([58] : List UInt8)) = false := beq_eq_false_iff_ne.mpr c12; have c12b1 : (a0.toList != ([58] : List UInt8)) = true := bne_iff_ne.mpr c12; by_cases c13 : a0.toList = ([59] : List UInt8)
            ·rw [if_pos c13] at H; have c13b0 : (a0.toList == ([59] : List UInt8)) = true := beq_iff_eq.mpr c13; have c13b1 : (a0.toList != ([59] : List UInt8)) = false := bne_eq_false_iff_eq.mpr c13; clear c13; obtain rfl := Option.some.inj H; go_enter Try.func130, Try.ntmps130; go_wp2; go_ret; exact ⟨zs, zX⟩
            ·rw [if_neg c13] at H; have c13b0 : (a0.toList == ([59] : List UInt8)) = false := beq_eq_false_iff_ne.mpr c13; have c13b1 : (a0.toList != ([59] : List UInt8)) = true := bne_iff_ne.mpr c13; by_cases c14 : a0.toList = ([60] : List UInt8)
             ·rw [if_pos c14] at H; have c14b0 : (a0.toList == ([60] : List UInt8)) = true := beq_iff_eq.mpr c14; have c14b1 : (a0.toList != ([60] : List UInt8)) = false := bne_eq_false_iff_eq.mpr c14; clear c14; obtain rfl := Option.some.inj H; go_enter Try.func130, Try.ntmps130; go_wp2; go_ret; exact ⟨zs, zX⟩
             ·rw [if_neg c14] at H; have c14b0 : (a0.toList == ([60] : List UInt8)) = false := beq_eq_false_iff_ne.mpr c14; have c14b1 : (a0.toList != ([60] : List UInt8)) = true := bne_iff_ne.mpr c14; by_cases c15 : a0.toList = ([61] : List UInt8)
              ·rw [if_pos c15] at H; have c15b0 : (a0.toList == ([61] : List UInt8)) = true := beq_iff_eq.mpr c15; have c15b1 : (a0.toList != ([61] : List UInt8)) = false := bne_eq_false_iff_eq.mpr c15; clear c15; obtain rfl := Option.some.inj H; go_enter Try.func130, Try.ntmps130; go_wp2; go_ret; exact ⟨zs, zX⟩
              ·rw [if_neg c15] at H; have c15b0 : (a0.toList == ([61] : List UInt8)) = false := beq_eq_false_iff_ne.mpr c15; have c15b1 : (a0.toList != ([61] : List UInt8)) = true := bne_iff_ne.mpr c15; by_cases c16 : a0.toList = ([61, 61] : List UInt8)
               ·rw [if_pos c16] at H; have c16b0 : (a0.toList == ([61, 61] : List UInt8)) = true := beq_iff_eq.mpr c16; have c16b1 : (a0.toList != ([61, 61] : List UInt8)) = false := bne_eq_false_iff_eq.mpr c16; clear c16; obtain rfl := Option.some.inj H; go_enter Try.func130, Try.ntmps130; go_wp2; go_ret; exact ⟨zs, zX⟩
               ·rw [if_neg c16] at H; have c16b0 : (a0.toList == ([61, 61] : List UInt8)) = false := beq_eq_false_iff_ne.mpr c16; have c16b1 : (a0.toList != ([61, 61] : List UInt8)) = true := bne_iff_ne.mpr c16; by_cases c17 : a0.toList = ([61, 62] : List UInt8)
                ·rw [if_pos c17] at H; have c17b0 : (a0.toList == ([61, 62] : List UInt8)) = true := beq_iff_eq.mpr c17; have c17b1 : (a0.toList != ([61, 62] : List UInt8)) = false := bne_eq_false_iff_eq.mpr c17; clear c17; obtain rfl := Option.some.inj H; go_enter Try.func130, Try.ntmps130; go_wp2; go_ret; exact ⟨zs, zX⟩
                ·rw [if_neg c17] at H; have c17b0 : (a0.toList == ([61, 62] : List UInt8)) = false := beq_eq_false_iff_ne.mpr c17; have c17b1 : (a0.toList != ([61, 62] : List UInt8)) = true := bne_iff_ne.mpr c17; by_cases c18 : a0.toList = ([91] : List UInt8)
                 ·rw [if_pos c18] at H; have c18b0 : (a0.toList == ([91] : List UInt8)) = true := beq_iff_eq.mpr c18; have c18b1 : (a0.toList != ([91] : List UInt8)) = false := bne_eq_false_iff_eq.mpr c18; clear c18; obtain rfl := Option.some.inj H; go_enter Try.func130, Try.ntmps130; go_wp2; go_ret; exact ⟨zs, zX⟩
                 ·rw [if_neg c18] at H; have c18b0 : (a0.toList == ([91] : List UInt8)) = false := beq_eq_false_iff_ne.mpr c18; have c18b1 : (a0.toList != ([91] : List UInt8)) = true := bne_iff_ne.mpr c18; by_cases c19 : a0.toList = ([93] : List UInt8)
                  ·rw [if_pos c19] at H; have c19b0 : (a0.toList == ([93] : List UInt8)) = true := beq_iff_eq.mpr c19; have c19b1 : (a0.toList != ([93] : List UInt8)) = false := bne_eq_false_iff_eq.mpr c19; clear c19; obtain rfl := Option.some.inj H; go_enter Try.func130, Try.ntmps130; go_wp2; go_ret; exact ⟨zs, zX⟩
                  ·rw [if_neg c19] at H; have c19b0 : (a0.toList == ([93] : List UInt8)) = false := beq_eq_false_iff_ne.mpr c19; have c19b1 : (a0.toList != ([93] : List UInt8)) = true := bne_iff_ne.mpr c19; by_cases c20 : a0.toList = ([123] : List UInt8)
                   ·rw [if_pos c20] at H; have c20b0 : (a0.toList == ([123] : List UInt8)) = true := beq_iff_eq.mpr c20; have c20b1 : (a0.toList != ([123] : List UInt8)) = false := bne_eq_false_iff_eq.mpr c20; clear c20; obtain rfl := Option.some.inj H; go_enter Try.func130, Try.ntmps130; go_wp2; go_ret; exact ⟨zs, zX⟩
                   ·rw [if_neg c20] at H; have c20b0 : (a0.toList == ([123] : List UInt8)) = false := beq_eq_false_iff_ne.mpr c20; have c20b1 : (a0.toList != ([123] : List UInt8)) = true := bne_iff_ne.mpr c20; by_cases c21 : a0.toList = ([124] : List UInt8)
                    ·rw [if_pos c21] at H; have c21b0 : (a0.toList == ([124] : List UInt8)) = true := beq_iff_eq.mpr c21; have c21b1 : (a0.toList != ([124] : List UInt8)) = false := bne_eq_false_iff_eq.mpr c21; clear c21; obtain rfl := Option.some.inj H; go_enter Try.func130, Try.ntmps130; go_wp2; go_ret; exact ⟨zs, zX⟩
                    ·rw [if_neg c21] at H; have c21b0 : (a0.toList == ([124] : List UInt8)) = false := beq_eq_false_iff_ne.mpr c21; have c21b1 : (a0.toList != ([124] : List UInt8)) = true := bne_iff_ne.mpr c21; by_cases c22 : a0.toList = ([124, 124] : List UInt8)
                     ·rw [if_pos c22] at H; have c22b0 : (a0.toList == ([124, 124] : List UInt8)) = true := beq_iff_eq.mpr c22; have c22b1 : (a0.toList != ([124, 124] : List UInt8)) = false := bne_eq_false_iff_eq.mpr c22; clear c22; obtain rfl := Option.some.inj H; go_enter Try.func130, Try.ntmps130; go_wp2; go_ret; exact ⟨zs, zX⟩
                     ·rw [if_neg c22] at H; have c22b0 : (a0.toList == ([124, 124] : List UInt8)) = false := beq_eq_false_iff_ne.mpr c22; have c22b1 : (a0.toList != ([124, 124] : List UInt8)) = true := bne_iff_ne.mpr c22; by_cases c23 : a0.toList = ([125] : List UInt8)
                      ·rw [if_pos c23] at H; have c23b0 : (a0.toList == ([125] : List UInt8)) = true := beq_iff_eq.mpr c23; have c23b1 : (a0.toList != ([125] : List UInt8)) = false := bne_eq_false_iff_eq.mpr c23; clear c23; obtain rfl := Option.some.inj H; go_enter Try.func130, Try.ntmps130; go_wp2; go_ret; exact ⟨zs, zX⟩
                      ·rw [if_neg c23] at H; have c23b0 : (a0.toList == ([125] : List UInt8)) = false := beq_eq_false_iff_ne.mpr c23; have c23b1 : (a0.toList != ([125] : List UInt8)) = true := bne_iff_ne.mpr c23; obtain rfl := Option.some.inj H; go_enter Try.func130, Try.ntmps130; go_wp2; go_ret; exact ⟨zs, zX⟩

end Go.Proofs.Ytnafnieocpkkhaa.P

namespace Go.Proofs.Ytnafnieocpkkhaa.P
open Go.RowKit Go.Proofs.YtnafnieocpkkhaaW.PrintWords Go.Proofs.YtnafnieocpkkhaaW.PrintLast Go.Proofs.YtnafnieocpkkhaaW.PrintMore
attribute [local go_sem] max2_int min2_int max_two min_two max_three min_three max_four min_four
set_option linter.unusedVariables false
set_option linter.unusedSimpArgs false

/-! ### token_sign: function 127 -/
def token_sign.l0 : Nat → ByteArray → Int → Option (Int)
 | 0, _, _ => none
 | k + 1, x0, x3 => if x3 > 0 then (if 0 ≤ x3 then (if x3 ≤ (x0.size : Int) then ((token_isSign.f (x0.extract 0 (x3 : Int).toNat)).bind fun t141 => (if t141 = true then (some x3) else (token_sign.l0 k x0 (wrap64 (x3 - 1))))) else (none)) else (none)) else (some 0)
def token_sign.f (k : Nat) (a0 : ByteArray) : Option (Int) := token_sign.l0 k a0 (mn 2 (a0.size : Int))
set_option maxHeartbeats 8000000 in
set_option maxRecDepth 100000 in
theorem token_sign.calls (k : Nat) (a0 : ByteArray) (r : Int) (w : World) (h : token_sign.f k a0 = some r) :
  Calls Try.prog 127 #[.string a0] w fun e w' => e = .returned (.int .i64 r) ∧ Below w.heap.size w w' := by
 have HB := Aside0.mk (Below.refl w.heap.size w); have H : (token_sign.l0 k a0 (mn 2 (a0.size : Int))) = some r := h; clear h
 obtain ⟨ji2, hji2⟩ : ∃ j_ : Int, (mn 2 (a0.size : Int)) = j_ := ⟨_, rfl⟩
 replace H : (token_sign.l0 k a0 ji2) = some r := by first | (rw [hji2] at H; exact H) | (simp only [hji2] at H ⊢; exact H)
 (try (have hji2h : ji2 ≤ 2 := by (rw [← hji2]; unfold mn; (repeat' split) <;> omega)))
 (try (have hji2g : ji2 ≤ 64 := by omega))
 (try (have hji2l : 0 ≤ ji2 := by (rw [← hji2]; unfold mn; (repeat' split) <;> omega)))
 (try (have hji2m : 0 ≤ ji2 := by omega))
 have hji2_ : (if (a0.size : Int) < 2 then (a0.size : Int) else 2) = ji2 := hji2; have H' := Aside0.mk H; clear H; go_enter Try.func127, Try.ntmps127; go_wp2
 go_loopg [3] k (fun kq v3 w' => ∃ (x3_1 : Int), v3 = .int .i64 x3_1 ∧ Aside0 (token_sign.l0 kq a0 x3_1 = some r) ∧ Aside0 (kq ≤ k) ∧ Aside0 (Below w.heap.size w w'))
 case atStart => exact ⟨(ji2), (by first | rfl | (simp; done) | (simp only [← hji2] <;> (first | rfl | simp)) | (simp [*]; done)), H', ⟨Nat.le_refl _⟩, ⟨zb⟩⟩
 case round =>
  clear H'; obtain ⟨x3_1, rfl, HA, HK1, HB⟩ := hrel
  cases gk with
  | zero => exact absurd HA.out (by simp [token_sign.l0])
  | succ k1 =>
   have H := HA.out; clear HA; simp only [token_sign.l0] at H; by_cases c3 : x3_1 > 0
   ·rw [if_pos c3] at H; have c3b0 := decide_eq_true c3; clear c3; replace H := zi2 H; obtain ⟨c4b0, c4b1, H⟩ := H; replace H := zi2 H; obtain ⟨c5b0, c5b1, H⟩ := H; replace H := zo H; obtain ⟨t141, A6, H⟩ := H; by_cases c7 : t141 = true
    ·subst c7; rw [if_pos rfl] at H; obtain rfl := Option.some.inj H
     go_wp2_with (first | ((with_reducible refine zG 130 rfl ?_); refine zg 14 Try.func130 ((token_isSign.calls (a0.extract 0 (x3_1 : Int).toNat) true _ A6.out).mono ?_); rintro e w' ⟨rfl, ⟨nd, rfl⟩⟩; refine ⟨_, rfl, ?_⟩))
     go_ret; exact ⟨by first | rfl | (simp [errW_none, errW_some] <;> rfl) | (simp only [← hji2]; first | rfl | (simp [errW_none, errW_some] <;> rfl)) | (simp [*, errW_none, errW_some] <;> rfl), zb⟩
    ·replace c7 := Bool.eq_false_iff.mpr c7; subst c7; replace H := zf H; have H' := Aside0.mk H; clear H
     go_wp2_with (first | ((with_reducible refine zG 130 rfl ?_); refine zg 14 Try.func130 ((token_isSign.calls (a0.extract 0 (x3_1 : Int).toNat) false _ A6.out).mono ?_); rintro e w' ⟨rfl, ⟨nd, rfl⟩⟩; refine ⟨_, rfl, ?_⟩))
     go_roundg k1
     case measure => have := HK1.out; omega
     case rel => exact ⟨(wrap64 (x3_1 - 1)), zs, H', zk, ⟨zb⟩⟩
   ·rw [if_neg c3] at H; have c3b0 := decide_eq_false c3; clear c3; obtain rfl := Option.some.inj H; go_wp2; go_ret; exact ⟨by first | rfl | (simp [errW_none, errW_some] <;> rfl) | (simp only [← hji2]; first | rfl | (simp [errW_none, errW_some] <;> rfl)) | (simp [*, errW_none, errW_some] <;> rfl), zb⟩

end Go.Proofs.Ytnafnieocpkkhaa.P

namespace Go.Proofs.Ytnafnieocpkkhaa.P
open Go.RowKit Go.Proofs.YtnafnieocpkkhaaW.PrintWords Go.Proofs.YtnafnieocpkkhaaW.PrintLast Go.Proofs.YtnafnieocpkkhaaW.PrintMore
attribute [local go_sem] max2_int min2_int max_two min_two max_three min_three max_four min_four
set_option linter.unusedVariables false
set_option linter.unusedSimpArgs false

theorem d0below {w w1 : World} (h : Drawn0 w w1) : Below w.heap.size w w1 := by
 obtain ⟨n, rfl⟩ := h.out; exact pw_below_drewN (Below.refl _ _) n
theorem d0trans {w w1 w2 : World} (h : Drawn0 w w1) (h2 : Drawn0 w1 w2) : Drawn0 w w2 := by
 obtain ⟨n, rfl⟩ := h.out; obtain ⟨m, rfl⟩ := h2.out; exact ⟨n + m, by simp [World.drewN_drewN]⟩
/-- How many bytes at the beginning are of a sort. -/
def token_good.run (p : Int → Option Bool) : List UInt8 → Option Nat
 | [] => some 0
 | c :: r => (p (c.toNat : Int)).bind fun b => if b = true then (token_good.run p r).map (· + 1) else some 0
set_option maxHeartbeats 4000000 in
set_option maxRecDepth 100000 in
theorem token_good.run_ok (g : Nat) (p : Int → Option Bool) (eg : ∀ args w, (callFunc g args).run Try.prog w = .ok (.enter g args) w) (hp : ∀ (c : Int) (b : Bool) (w : World), p c = some b → Calls Try.prog g #[.int .u8 c] w fun e w' => e = .returned (.bool b) ∧ Drawn0 w w')
  (s : ByteArray) (n : Nat) (hs : s.size ≤ 9223372036854775807) (h : token_good.run p s.data.toList = some n) (w : World) :
  Calls Try.prog 120 #[.string s, .func (.func g) #[] #[]] w fun e w' => e = .returned (.int .i64 (n : Int)) ∧ Drawn0 w w' := by
 have hz := Ut.size_data s; have H := Aside0.mk h; have HP := Aside0.mk hp; clear h hp; go_enter Try.func120, Try.ntmps120; go_wp2
 go_loopg [5] s.size (fun kq v5 w' => ∃ i : Nat, v5 = .int .i64 (i : Int) ∧ Aside0 (i + kq = s.size) ∧ Aside0 (∃ m, token_good.run p (s.data.toList.drop i) = some m ∧ i + m = n) ∧ Aside0 (Drawn0 w w'))
 case atStart => exact ⟨0, rfl, ⟨by omega⟩, ⟨n, H.out, by omega⟩, ⟨Drawn0.refl _⟩⟩
 case round =>
  clear H; obtain ⟨i, rfl, HK, HM, HD⟩ := hrel; by_cases hlt : i < s.size
  ·have hl2 : i < s.data.toList.length := (by omega)
   obtain ⟨m, hm, hmn⟩ := HM.out; rw [List.drop_eq_getElem_cons hl2] at hm; simp only [token_good.run] at hm; obtain ⟨b, hb, hm⟩ := Option.bind_eq_some_iff.mp hm
   have hcall := fun w => HP.out _ b w hb
   have hsb : (s[i]'hlt) = s.data.toList[i] := rfl; rw [← hsb] at hcall; have hd1 : decide ((i : Int) < (s.size : Int)) = true := decide_eq_true (by omega); have q0 : (0 ≤ (i : Int)) = True := eq_true (by omega); have q1 : ((i : Int) < (s.size : Int)) = True := eq_true (by omega)
   cases b with
   | true =>
    rw [if_pos rfl] at hm; obtain ⟨m', hm', hmm⟩ := Option.map_eq_some_iff.mp hm; have HM2 := Aside0.mk (show ∃ m, token_good.run p (s.data.toList.drop (i + 1)) = some m ∧ (i + 1) + m = n from ⟨m', hm', by omega⟩); clear hm hm' hmm hb hmn HM hsb
    cases gk with
    | zero => exact absurd hlt (by have := HK.out; omega)
    | succ kq' =>
    go_wp2_with (go_at_fn g; refine (hcall _).mono ?_; rintro e w1 ⟨rfl, hd⟩; have HD2 := Aside0.mk (d0trans HD.out hd); clear hd)
    go_roundg kq'
    case measure => omega
    case rel => exact ⟨i + 1, by go_num, ⟨by have := HK.out; omega⟩, HM2, HD2⟩
   | false =>
    rw [if_neg (by decide)] at hm; injection hm with hm; subst hm; have hin := Aside0.mk (show i = n by omega); clear hb hmn HM hsb
    go_wp2_with (go_at_fn g; refine (hcall _).mono ?_; rintro e w1 ⟨rfl, hd⟩; have HD2 := Aside0.mk (d0trans HD.out hd); clear hd)
    go_ret; exact ⟨by rw [← hin.out]; rfl, HD2.out⟩
  ·obtain ⟨m, hm, hmn⟩ := HM.out; rw [List.drop_of_length_le (by omega)] at hm; simp only [token_good.run, Option.some.injEq] at hm; have hin := Aside0.mk (show i = n by omega); have hd1 : decide ((i : Int) < (s.size : Int)) = false := decide_eq_false (by omega); clear hm hmn HM; go_wp2; go_ret; exact ⟨by rw [← hin.out]; rfl, HD.out⟩
/-- A letter or a digit: what good's own literal says of a byte. -/
def token_good.letdig (c : Int) : Option Bool := (token_isLetter.f c).bind fun b => if b = true then some true else token_isDigit.f c
def token_good.fin (s : ByteArray) (kind n : Int) : Option (Int × ByteArray × Bool) := if 0 ≤ n then (if n ≤ (s.size : Int) then some (kind, s.extract 0 n.toNat, decide (0 < n)) else none) else none
def token_good.f (k : Nat) (a0 : ByteArray) : Option (Int × ByteArray × Bool) :=
 if a0.size ≤ 9223372036854775807 then (if 0 < a0.size then
  (token_isBlank.f (bt a0 0)).bind fun b0 => if b0 = true then (token_good.run token_isBlank.f a0.data.toList).bind fun n => token_good.fin a0 1 n else
  (strings_HasPrefix.f a0 ⟨#[47, 47]⟩).bind fun b1 => if b1 = true then (token_line.f a0).bind fun n => token_good.fin a0 2 n else
  (token_isLetter.f (bt a0 0)).bind fun b2 => if b2 = true then (token_good.run token_good.letdig a0.data.toList).bind fun n => if n ≤ a0.size then (token_isWord.f (a0.extract 0 n)).bind fun b => token_good.fin a0 (if b = true then 4 else 3) n else none else
  (token_isDigit.f (bt a0 0)).bind fun b3 => if b3 = true then (token_good.run token_isDigit.f a0.data.toList).bind fun n => token_good.fin a0 5 n else
  if bt a0 0 = 34 then (token_quoted.f k a0).bind fun n => token_good.fin a0 6 n else (token_sign.f k a0).bind fun n => token_good.fin a0 7 n
 else none) else none
set_option maxHeartbeats 4000000 in
set_option maxRecDepth 100000 in
theorem token_good.letdig_ok (c : Int) (b : Bool) (w : World) (h : token_good.letdig c = some b) : Calls Try.prog 123 #[.int .u8 c] w fun e w' => e = .returned (.bool b) ∧ Drawn0 w w' := by
 unfold token_good.letdig at h; obtain ⟨x, hx, h⟩ := Option.bind_eq_some_iff.mp h; have HX := Aside0.mk hx; clear hx
 cases x with
 | true =>
  rw [if_pos rfl] at h; injection h with h; subst h; go_enter Try.func123, Try.ntmps123
  go_wp2_with (go_at_call 122; refine (token_isLetter.calls _ _ _ HX.out).mono ?_; rintro e w1 ⟨rfl, hd⟩; have HD := Aside0.mk hd; clear hd)
  go_ret; exact ⟨rfl, HD.out⟩
 | false =>
  rw [if_neg (by decide)] at h; have HY := Aside0.mk h; clear h; go_enter Try.func123, Try.ntmps123
  go_wp2_with (first | (go_at_call 122; refine (token_isLetter.calls _ _ _ HX.out).mono ?_; rintro e w1 ⟨rfl, hd⟩; have HD := Aside0.mk hd; clear hd) | (go_at_call 124; refine (token_isDigit.calls _ _ _ HY.out).mono ?_; rintro e w2 ⟨rfl, hd⟩; have HD2 := Aside0.mk (d0trans HD.out hd); clear hd))
  go_ret; exact ⟨rfl, HD2.out⟩
theorem token_good.fin_some {s : ByteArray} {kind n r1 : Int} {r2 : ByteArray} {r3 : Bool} (h : token_good.fin s kind n = some (r1, r2, r3)) : 0 ≤ n ∧ n ≤ (s.size : Int) ∧ r1 = kind ∧ r2 = s.extract 0 n.toNat ∧ r3 = decide (0 < n) := by
 unfold token_good.fin at h; obtain ⟨h0, h⟩ := Ut.ite_some h; obtain ⟨h1, h⟩ := Ut.ite_some h; simp only [Option.some.injEq, Prod.mk.injEq] at h; exact ⟨h0, h1, h.1.symm, h.2.1.symm, h.2.2.symm⟩
theorem token_good.step {w w1 w2 : World} (h : Below w.heap.size w w1) (h2 : Below w1.heap.size w1 w2) : Below w.heap.size w w2 := h.trans (h2.mono h.size)
set_option maxHeartbeats 8000000 in
set_option maxRecDepth 100000 in
theorem token_good.calls (k : Nat) (a0 : ByteArray) (r1 : Int) (r2 : ByteArray) (r3 : Bool) (w : World) (h : token_good.f k a0 = some (r1, r2, r3)) :
  Calls Try.prog 117 #[.string a0] w fun e w' => e = .returned (.tuple #[.agg #[.int .i64 r1, .string r2], .bool r3]) ∧ Below w.heap.size w w' := by
 unfold token_good.f at h; obtain ⟨hz, h⟩ := Ut.ite_some h; obtain ⟨h0, h⟩ := Ut.ite_some h; obtain ⟨b0, hb0, h⟩ := Option.bind_eq_some_iff.mp h; have HZ := Aside0.mk hz; have q0 : ((0 : Int) < (a0.size : Int)) = True := eq_true (by omega); have q00 : (0 < a0.size) = True := eq_true h0
 have hx0 : ∀ h : 0 < a0.size, (((a0[0]'h).toNat : Nat) : Int) = bt a0 0 := fun h => bt_at a0 0 h
 have B0 := Aside0.mk hb0; have hG0 : (w.alloc (.cells #[.int .i64 0, .string ⟨#[]⟩] 23)).heap[w.heap.size]? = some (.cells #[.int .i64 0, .string ⟨#[]⟩] 23 (0, 0)) := blk_new _ _; have G0 := Aside0.mk hG0; have E0 := Aside0.mk (below_alloc (Below.refl w.heap.size w) (.cells #[.int .i64 0, .string ⟨#[]⟩] 23)); clear hb0 hG0 hz; have hgen := hx0; clear hgen
 cases b0 with
 | true =>
  rw [if_pos rfl] at h; obtain ⟨n, hn, h⟩ := Option.bind_eq_some_iff.mp h; have HN := Aside0.mk hn; clear hn; obtain ⟨n0, n1, rfl, rfl, rfl⟩ := token_good.fin_some h; clear h
  have n2 : n ≤ a0.size := (by omega)
  go_enter Try.func117, Try.ntmps117
  go_wp2_with (first | (go_at_call 119; refine (token_isBlank.calls _ _ _ B0.out).mono ?_; rintro e w1 ⟨rfl, hd⟩; have hb := d0below hd; clear hd; have E1 := Aside0.mk (token_good.step E0.out hb); have G1 := Aside0.mk (blk_below G0.out hb); clear hb E0 G0; (try clear d0 d1 e0 e1); have d0 := Lib.frozen_of_heap G1.out 0; have d1 := Lib.frozen_of_heap G1.out 1; have e0 : w1.cell? ⟨w.heap.size, 0, none⟩ = some (.int .i64 0) := Lib.cell_of_heap G1.out 0; have e1 : w1.cell? ⟨w.heap.size, 1, none⟩ = some (.string ⟨#[]⟩) := Lib.cell_of_heap G1.out 1) | (go_at_call 120; refine (token_good.run_ok 119 token_isBlank.f (Go.Proofs.enters_of Try.func119 (by kernel_rfl) rfl) (fun c b w h => token_isBlank.calls c b w h) a0 n HZ.out HN.out _).mono ?_; rintro e w2 ⟨rfl, hd⟩; have hb := d0below hd; clear hd; have E2 := Aside0.mk (token_good.step E1.out hb); have G2 := Aside0.mk (blk_below G1.out hb); clear hb E1 G1; (try clear d0 d1 e0 e1); have d0 := Lib.frozen_of_heap G2.out 0; have d1 := Lib.frozen_of_heap G2.out 1; have e0 : w2.cell? ⟨w.heap.size, 0, none⟩ = some (.int .i64 0) := Lib.cell_of_heap G2.out 0; have e1 : w2.cell? ⟨w.heap.size, 1, none⟩ = some (.string ⟨#[]⟩) := Lib.cell_of_heap G2.out 1))
  refine bodyPost_ret (results_ct rfl _ _ w.heap.size 23 #[.int .i64 1, .string (a0.extract 0 n)] (0, 0) _ rfl (by (with_reducible repeat (first | refine blk_drewN ?_ _ | refine blk_drew ?_)); refine blk_put (cs := #[.int .i64 1, .string ⟨#[]⟩]) ?_ 1 _ rfl; (with_reducible repeat (first | refine blk_drewN ?_ _ | refine blk_drew ?_)); refine blk_put (cs := #[.int .i64 0, .string ⟨#[]⟩]) ?_ 0 _ rfl; (with_reducible repeat (first | refine blk_drewN ?_ _ | refine blk_drew ?_)); exact G2.out) Try.underlying23 rfl (by kernel_rfl)) rfl ?_; exact ⟨by first | rfl | simp, by repeat (first | exact E2.out | apply pw_below_drewN | apply below_drew1 | refine below_set ?_ (Nat.le_refl _))⟩
 | false =>
  rw [if_neg (by decide)] at h; obtain ⟨b1, hb1, h⟩ := Option.bind_eq_some_iff.mp h; have B1 := Aside0.mk hb1; clear hb1
  cases b1 with
  | true =>
   rw [if_pos rfl] at h; obtain ⟨n, hn, h⟩ := Option.bind_eq_some_iff.mp h; have HN := Aside0.mk hn; clear hn; obtain ⟨n0, n1, rfl, rfl, rfl⟩ := token_good.fin_some h; clear h; go_enter Try.func117, Try.ntmps117
   go_wp2_with (first | (go_at_call 119; refine (token_isBlank.calls _ _ _ B0.out).mono ?_; rintro e w1 ⟨rfl, hd⟩; have hb := d0below hd; clear hd; have E1 := Aside0.mk (token_good.step E0.out hb); have G1 := Aside0.mk (blk_below G0.out hb); clear hb E0 G0; (try clear d0 d1 e0 e1); have d0 := Lib.frozen_of_heap G1.out 0; have d1 := Lib.frozen_of_heap G1.out 1; have e0 : w1.cell? ⟨w.heap.size, 0, none⟩ = some (.int .i64 0) := Lib.cell_of_heap G1.out 0; have e1 : w1.cell? ⟨w.heap.size, 1, none⟩ = some (.string ⟨#[]⟩) := Lib.cell_of_heap G1.out 1) | (go_at_call 121; refine (strings_HasPrefix.calls _ _ _ _ B1.out).mono ?_; rintro e w2 ⟨rfl, hd⟩; have hb := d0below hd; clear hd; have E2 := Aside0.mk (token_good.step E1.out hb); have G2 := Aside0.mk (blk_below G1.out hb); clear hb E1 G1; (try clear d0 d1 e0 e1); have d0 := Lib.frozen_of_heap G2.out 0; have d1 := Lib.frozen_of_heap G2.out 1; have e0 : w2.cell? ⟨w.heap.size, 0, none⟩ = some (.int .i64 0) := Lib.cell_of_heap G2.out 0; have e1 : w2.cell? ⟨w.heap.size, 1, none⟩ = some (.string ⟨#[]⟩) := Lib.cell_of_heap G2.out 1) | (go_at_call 118; refine (token_line.calls _ _ _ HN.out).mono ?_; rintro e w3 ⟨rfl, hd⟩; have hb := d0below hd; clear hd; have E3 := Aside0.mk (token_good.step E2.out hb); have G3 := Aside0.mk (blk_below G2.out hb); clear hb E2 G2; (try clear d0 d1 e0 e1); have d0 := Lib.frozen_of_heap G3.out 0; have d1 := Lib.frozen_of_heap G3.out 1; have e0 : w3.cell? ⟨w.heap.size, 0, none⟩ = some (.int .i64 0) := Lib.cell_of_heap G3.out 0; have e1 : w3.cell? ⟨w.heap.size, 1, none⟩ = some (.string ⟨#[]⟩) := Lib.cell_of_heap G3.out 1))
   refine bodyPost_ret (results_ct rfl _ _ w.heap.size 23 #[.int .i64 2, .string (a0.extract 0 n.toNat)] (0, 0) _ rfl (by (with_reducible repeat (first | refine blk_drewN ?_ _ | refine blk_drew ?_)); refine blk_put (cs := #[.int .i64 2, .string ⟨#[]⟩]) ?_ 1 _ rfl; (with_reducible repeat (first | refine blk_drewN ?_ _ | refine blk_drew ?_)); refine blk_put (cs := #[.int .i64 0, .string ⟨#[]⟩]) ?_ 0 _ rfl; (with_reducible repeat (first | refine blk_drewN ?_ _ | refine blk_drew ?_)); exact G3.out) Try.underlying23 rfl (by kernel_rfl)) rfl ?_; exact ⟨by first | rfl | simp, by repeat (first | exact E3.out | apply pw_below_drewN | apply below_drew1 | refine below_set ?_ (Nat.le_refl _))⟩
  | false =>
   rw [if_neg (by decide)] at h; obtain ⟨b2, hb2, h⟩ := Option.bind_eq_some_iff.mp h; have B2 := Aside0.mk hb2; clear hb2
   cases b2 with
   | true =>
    rw [if_pos rfl] at h; obtain ⟨n, hn, h⟩ := Option.bind_eq_some_iff.mp h; have HN := Aside0.mk hn; clear hn; obtain ⟨n2, h⟩ := Ut.ite_some h; obtain ⟨b, hb, h⟩ := Option.bind_eq_some_iff.mp h; have BW := Aside0.mk hb; clear hb
    cases b with
    | true =>
     rw [if_pos rfl] at h; obtain ⟨n0, n1, rfl, rfl, rfl⟩ := token_good.fin_some h; clear h; go_enter Try.func117, Try.ntmps117
     go_wp2_with (first | (go_at_call 119; refine (token_isBlank.calls _ _ _ B0.out).mono ?_; rintro e w1 ⟨rfl, hd⟩; have hb := d0below hd; clear hd; have E1 := Aside0.mk (token_good.step E0.out hb); have G1 := Aside0.mk (blk_below G0.out hb); clear hb E0 G0; (try clear d0 d1 e0 e1); have d0 := Lib.frozen_of_heap G1.out 0; have d1 := Lib.frozen_of_heap G1.out 1; have e0 : w1.cell? ⟨w.heap.size, 0, none⟩ = some (.int .i64 0) := Lib.cell_of_heap G1.out 0; have e1 : w1.cell? ⟨w.heap.size, 1, none⟩ = some (.string ⟨#[]⟩) := Lib.cell_of_heap G1.out 1) | (go_at_call 121; refine (strings_HasPrefix.calls _ _ _ _ B1.out).mono ?_; rintro e w2 ⟨rfl, hd⟩; have hb := d0below hd; clear hd; have E2 := Aside0.mk (token_good.step E1.out hb); have G2 := Aside0.mk (blk_below G1.out hb); clear hb E1 G1; (try clear d0 d1 e0 e1); have d0 := Lib.frozen_of_heap G2.out 0; have d1 := Lib.frozen_of_heap G2.out 1; have e0 : w2.cell? ⟨w.heap.size, 0, none⟩ = some (.int .i64 0) := Lib.cell_of_heap G2.out 0; have e1 : w2.cell? ⟨w.heap.size, 1, none⟩ = some (.string ⟨#[]⟩) := Lib.cell_of_heap G2.out 1) | (go_at_call 122; refine (token_isLetter.calls _ _ _ B2.out).mono ?_; rintro e w3 ⟨rfl, hd⟩; have hb := d0below hd; clear hd; have E3 := Aside0.mk (token_good.step E2.out hb); have G3 := Aside0.mk (blk_below G2.out hb); clear hb E2 G2; (try clear d0 d1 e0 e1); have d0 := Lib.frozen_of_heap G3.out 0; have d1 := Lib.frozen_of_heap G3.out 1; have e0 : w3.cell? ⟨w.heap.size, 0, none⟩ = some (.int .i64 0) := Lib.cell_of_heap G3.out 0; have e1 : w3.cell? ⟨w.heap.size, 1, none⟩ = some (.string ⟨#[]⟩) := Lib.cell_of_heap G3.out 1) | (go_at_call 120; refine (token_good.run_ok 123 token_good.letdig (Go.Proofs.enters_of Try.func123 (by kernel_rfl) rfl) (fun c b w h => token_good.letdig_ok c b w h) a0 n HZ.out HN.out _).mono ?_; rintro e w4 ⟨rfl, hd⟩; have hb := d0below hd; clear hd; have E4 := Aside0.mk (token_good.step E3.out hb); have G4 := Aside0.mk (blk_below G3.out hb); clear hb E3 G3; (try clear d0 d1 e0 e1); have d0 := Lib.frozen_of_heap G4.out 0; have d1 := Lib.frozen_of_heap G4.out 1; have e0 : w4.cell? ⟨w.heap.size, 0, none⟩ = some (.int .i64 0) := Lib.cell_of_heap G4.out 0; have e1 : w4.cell? ⟨w.heap.size, 1, none⟩ = some (.string ⟨#[]⟩) := Lib.cell_of_heap G4.out 1) | (go_at_call 125; refine (token_isWord.calls _ _ _ BW.out).mono ?_; rintro e w5 ⟨rfl, hd⟩; have hb := d0below hd; clear hd; have E5 := Aside0.mk (token_good.step E4.out hb); have G5 := Aside0.mk (blk_below G4.out hb); clear hb E4 G4; (try clear d0 d1 e0 e1); have d0 := Lib.frozen_of_heap G5.out 0; have d1 := Lib.frozen_of_heap G5.out 1; have e0 : w5.cell? ⟨w.heap.size, 0, none⟩ = some (.int .i64 0) := Lib.cell_of_heap G5.out 0; have e1 : w5.cell? ⟨w.heap.size, 1, none⟩ = some (.string ⟨#[]⟩) := Lib.cell_of_heap G5.out 1))
     refine bodyPost_ret (results_ct rfl _ _ w.heap.size 23 #[.int .i64 4, .string (a0.extract 0 n)] (0, 0) _ rfl (by (with_reducible repeat (first | refine blk_drewN ?_ _ | refine blk_drew ?_)); refine blk_put (cs := #[.int .i64 4, .string ⟨#[]⟩]) ?_ 1 _ rfl; (with_reducible repeat (first | refine blk_drewN ?_ _ | refine blk_drew ?_)); refine blk_put (cs := #[.int .i64 0, .string ⟨#[]⟩]) ?_ 0 _ rfl; (with_reducible repeat (first | refine blk_drewN ?_ _ | refine blk_drew ?_)); exact G5.out) Try.underlying23 rfl (by kernel_rfl)) rfl ?_; exact ⟨by first | rfl | simp, by repeat (first | exact E5.out | apply pw_below_drewN | apply below_drew1 | refine below_set ?_ (Nat.le_refl _))⟩
    | false =>
     rw [if_neg (by decide)] at h; obtain ⟨n0, n1, rfl, rfl, rfl⟩ := token_good.fin_some h; clear h; go_enter Try.func117, Try.ntmps117
     go_wp2_with (first | (go_at_call 119; refine (token_isBlank.calls _ _ _ B0.out).mono ?_; rintro e w1 ⟨rfl, hd⟩; have hb := d0below hd; clear hd; have E1 := Aside0.mk (token_good.step E0.out hb); have G1 := Aside0.mk (blk_below G0.out hb); clear hb E0 G0; (try clear d0 d1 e0 e1); have d0 := Lib.frozen_of_heap G1.out 0; have d1 := Lib.frozen_of_heap G1.out 1; have e0 : w1.cell? ⟨w.heap.size, 0, none⟩ = some (.int .i64 0) := Lib.cell_of_heap G1.out 0; have e1 : w1.cell? ⟨w.heap.size, 1, none⟩ = some (.string ⟨#[]⟩) := Lib.cell_of_heap G1.out 1) | (go_at_call 121; refine (strings_HasPrefix.calls _ _ _ _ B1.out).mono ?_; rintro e w2 ⟨rfl, hd⟩; have hb := d0below hd; clear hd; have E2 := Aside0.mk (token_good.step E1.out hb); have G2 := Aside0.mk (blk_below G1.out hb); clear hb E1 G1; (try clear d0 d1 e0 e1); have d0 := Lib.frozen_of_heap G2.out 0; have d1 := Lib.frozen_of_heap G2.out 1; have e0 : w2.cell? ⟨w.heap.size, 0, none⟩ = some (.int .i64 0) := Lib.cell_of_heap G2.out 0; have e1 : w2.cell? ⟨w.heap.size, 1, none⟩ = some (.string ⟨#[]⟩) := Lib.cell_of_heap G2.out 1) | (go_at_call 122; refine (token_isLetter.calls _ _ _ B2.out).mono ?_; rintro e w3 ⟨rfl, hd⟩; have hb := d0below hd; clear hd; have E3 := Aside0.mk (token_good.step E2.out hb); have G3 := Aside0.mk (blk_below G2.out hb); clear hb E2 G2; (try clear d0 d1 e0 e1); have d0 := Lib.frozen_of_heap G3.out 0; have d1 := Lib.frozen_of_heap G3.out 1; have e0 : w3.cell? ⟨w.heap.size, 0, none⟩ = some (.int .i64 0) := Lib.cell_of_heap G3.out 0; have e1 : w3.cell? ⟨w.heap.size, 1, none⟩ = some (.string ⟨#[]⟩) := Lib.cell_of_heap G3.out 1) | (go_at_call 120; refine (token_good.run_ok 123 token_good.letdig (Go.Proofs.enters_of Try.func123 (by kernel_rfl) rfl) (fun c b w h => token_good.letdig_ok c b w h) a0 n HZ.out HN.out _).mono ?_; rintro e w4 ⟨rfl, hd⟩; have hb := d0below hd; clear hd; have E4 := Aside0.mk (token_good.step E3.out hb); have G4 := Aside0.mk (blk_below G3.out hb); clear hb E3 G3; (try clear d0 d1 e0 e1); have d0 := Lib.frozen_of_heap G4.out 0; have d1 := Lib.frozen_of_heap G4.out 1; have e0 : w4.cell? ⟨w.heap.size, 0, none⟩ = some (.int .i64 0) := Lib.cell_of_heap G4.out 0; have e1 : w4.cell? ⟨w.heap.size, 1, none⟩ = some (.string ⟨#[]⟩) := Lib.cell_of_heap G4.out 1) | (go_at_call 125; refine (token_isWord.calls _ _ _ BW.out).mono ?_; rintro e w5 ⟨rfl, hd⟩; have hb := d0below hd; clear hd; have E5 := Aside0.mk (token_good.step E4.out hb); have G5 := Aside0.mk (blk_below G4.out hb); clear hb E4 G4; (try clear d0 d1 e0 e1); have d0 := Lib.frozen_of_heap G5.out 0; have d1 := Lib.frozen_of_heap G5.out 1; have e0 : w5.cell? ⟨w.heap.size, 0, none⟩ = some (.int .i64 0) := Lib.cell_of_heap G5.out 0; have e1 : w5.cell? ⟨w.heap.size, 1, none⟩ = some (.string ⟨#[]⟩) := Lib.cell_of_heap G5.out 1))
     refine bodyPost_ret (results_ct rfl _ _ w.heap.size 23 #[.int .i64 3, .string (a0.extract 0 n)] (0, 0) _ rfl (by (with_reducible repeat (first | refine blk_drewN ?_ _ | refine blk_drew ?_)); refine blk_put (cs := #[.int .i64 3, .string ⟨#[]⟩]) ?_ 1 _ rfl; (with_reducible repeat (first | refine blk_drewN ?_ _ | refine blk_drew ?_)); refine blk_put (cs := #[.int .i64 0, .string ⟨#[]⟩]) ?_ 0 _ rfl; (with_reducible repeat (first | refine blk_drewN ?_ _ | refine blk_drew ?_)); exact G5.out) Try.underlying23 rfl (by kernel_rfl)) rfl ?_; exact ⟨by first | rfl | simp, by repeat (first | exact E5.out | apply pw_below_drewN | apply below_drew1 | refine below_set ?_ (Nat.le_refl _))⟩
   | false =>
    rw [if_neg (by decide)] at h; obtain ⟨b3, hb3, h⟩ := Option.bind_eq_some_iff.mp h; have B3 := Aside0.mk hb3; clear hb3
    cases b3 with
    | true =>
     rw [if_pos rfl] at h; obtain ⟨n, hn, h⟩ := Option.bind_eq_some_iff.mp h; have HN := Aside0.mk hn; clear hn; obtain ⟨n0, n1, rfl, rfl, rfl⟩ := token_good.fin_some h; clear h
     have n2 : n ≤ a0.size := (by omega)
     go_enter Try.func117, Try.ntmps117
     go_wp2_with (first | (go_at_call 119; refine (token_isBlank.calls _ _ _ B0.out).mono ?_; rintro e w1 ⟨rfl, hd⟩; have hb := d0below hd; clear hd; have E1 := Aside0.mk (token_good.step E0.out hb); have G1 := Aside0.mk (blk_below G0.out hb); clear hb E0 G0; (try clear d0 d1 e0 e1); have d0 := Lib.frozen_of_heap G1.out 0; have d1 := Lib.frozen_of_heap G1.out 1; have e0 : w1.cell? ⟨w.heap.size, 0, none⟩ = some (.int .i64 0) := Lib.cell_of_heap G1.out 0; have e1 : w1.cell? ⟨w.heap.size, 1, none⟩ = some (.string ⟨#[]⟩) := Lib.cell_of_heap G1.out 1) | (go_at_call 121; refine (strings_HasPrefix.calls _ _ _ _ B1.out).mono ?_; rintro e w2 ⟨rfl, hd⟩; have hb := d0below hd; clear hd; have E2 := Aside0.mk (token_good.step E1.out hb); have G2 := Aside0.mk (blk_below G1.out hb); clear hb E1 G1; (try clear d0 d1 e0 e1); have d0 := Lib.frozen_of_heap G2.out 0; have d1 := Lib.frozen_of_heap G2.out 1; have e0 : w2.cell? ⟨w.heap.size, 0, none⟩ = some (.int .i64 0) := Lib.cell_of_heap G2.out 0; have e1 : w2.cell? ⟨w.heap.size, 1, none⟩ = some (.string ⟨#[]⟩) := Lib.cell_of_heap G2.out 1) | (go_at_call 122; refine (token_isLetter.calls _ _ _ B2.out).mono ?_; rintro e w3 ⟨rfl, hd⟩; have hb := d0below hd; clear hd; have E3 := Aside0.mk (token_good.step E2.out hb); have G3 := Aside0.mk (blk_below G2.out hb); clear hb E2 G2; (try clear d0 d1 e0 e1); have d0 := Lib.frozen_of_heap G3.out 0; have d1 := Lib.frozen_of_heap G3.out 1; have e0 : w3.cell? ⟨w.heap.size, 0, none⟩ = some (.int .i64 0) := Lib.cell_of_heap G3.out 0; have e1 : w3.cell? ⟨w.heap.size, 1, none⟩ = some (.string ⟨#[]⟩) := Lib.cell_of_heap G3.out 1) | (go_at_call 124; refine (token_isDigit.calls _ _ _ B3.out).mono ?_; rintro e w4 ⟨rfl, hd⟩; have hb := d0below hd; clear hd; have E4 := Aside0.mk (token_good.step E3.out hb); have G4 := Aside0.mk (blk_below G3.out hb); clear hb E3 G3; (try clear d0 d1 e0 e1); have d0 := Lib.frozen_of_heap G4.out 0; have d1 := Lib.frozen_of_heap G4.out 1; have e0 : w4.cell? ⟨w.heap.size, 0, none⟩ = some (.int .i64 0) := Lib.cell_of_heap G4.out 0; have e1 : w4.cell? ⟨w.heap.size, 1, none⟩ = some (.string ⟨#[]⟩) := Lib.cell_of_heap G4.out 1) | (go_at_call 120; refine (token_good.run_ok 124 token_isDigit.f (Go.Proofs.enters_of Try.func124 (by kernel_rfl) rfl) (fun c b w h => token_isDigit.calls c b w h) a0 n HZ.out HN.out _).mono ?_; rintro e w5 ⟨rfl, hd⟩; have hb := d0below hd; clear hd; have E5 := Aside0.mk (token_good.step E4.out hb); have G5 := Aside0.mk (blk_below G4.out hb); clear hb E4 G4; (try clear d0 d1 e0 e1); have d0 := Lib.frozen_of_heap G5.out 0; have d1 := Lib.frozen_of_heap G5.out 1; have e0 : w5.cell? ⟨w.heap.size, 0, none⟩ = some (.int .i64 0) := Lib.cell_of_heap G5.out 0; have e1 : w5.cell? ⟨w.heap.size, 1, none⟩ = some (.string ⟨#[]⟩) := Lib.cell_of_heap G5.out 1))
     refine bodyPost_ret (results_ct rfl _ _ w.heap.size 23 #[.int .i64 5, .string (a0.extract 0 n)] (0, 0) _ rfl (by (with_reducible repeat (first | refine blk_drewN ?_ _ | refine blk_drew ?_)); refine blk_put (cs := #[.int .i64 5, .string ⟨#[]⟩]) ?_ 1 _ rfl; (with_reducible repeat (first | refine blk_drewN ?_ _ | refine blk_drew ?_)); refine blk_put (cs := #[.int .i64 0, .string ⟨#[]⟩]) ?_ 0 _ rfl; (with_reducible repeat (first | refine blk_drewN ?_ _ | refine blk_drew ?_)); exact G5.out) Try.underlying23 rfl (by kernel_rfl)) rfl ?_; exact ⟨by first | rfl | simp, by repeat (first | exact E5.out | apply pw_below_drewN | apply below_drew1 | refine below_set ?_ (Nat.le_refl _))⟩
    | false =>
     rw [if_neg (by decide)] at h; by_cases c : bt a0 0 = 34
     ·rw [if_pos c] at h; have cb : (bt a0 0 == 34) = true := beq_iff_eq.mpr c; obtain ⟨n, hn, h⟩ := Option.bind_eq_some_iff.mp h; have HN := Aside0.mk hn; clear hn c; obtain ⟨n0, n1, rfl, rfl, rfl⟩ := token_good.fin_some h; clear h; go_enter Try.func117, Try.ntmps117
      go_wp2_with (first | (go_at_call 119; refine (token_isBlank.calls _ _ _ B0.out).mono ?_; rintro e w1 ⟨rfl, hd⟩; have hb := d0below hd; clear hd; have E1 := Aside0.mk (token_good.step E0.out hb); have G1 := Aside0.mk (blk_below G0.out hb); clear hb E0 G0; (try clear d0 d1 e0 e1); have d0 := Lib.frozen_of_heap G1.out 0; have d1 := Lib.frozen_of_heap G1.out 1; have e0 : w1.cell? ⟨w.heap.size, 0, none⟩ = some (.int .i64 0) := Lib.cell_of_heap G1.out 0; have e1 : w1.cell? ⟨w.heap.size, 1, none⟩ = some (.string ⟨#[]⟩) := Lib.cell_of_heap G1.out 1) | (go_at_call 121; refine (strings_HasPrefix.calls _ _ _ _ B1.out).mono ?_; rintro e w2 ⟨rfl, hd⟩; have hb := d0below hd; clear hd; have E2 := Aside0.mk (token_good.step E1.out hb); have G2 := Aside0.mk (blk_below G1.out hb); clear hb E1 G1; (try clear d0 d1 e0 e1); have d0 := Lib.frozen_of_heap G2.out 0; have d1 := Lib.frozen_of_heap G2.out 1; have e0 : w2.cell? ⟨w.heap.size, 0, none⟩ = some (.int .i64 0) := Lib.cell_of_heap G2.out 0; have e1 : w2.cell? ⟨w.heap.size, 1, none⟩ = some (.string ⟨#[]⟩) := Lib.cell_of_heap G2.out 1) | (go_at_call 122; refine (token_isLetter.calls _ _ _ B2.out).mono ?_; rintro e w3 ⟨rfl, hd⟩; have hb := d0below hd; clear hd; have E3 := Aside0.mk (token_good.step E2.out hb); have G3 := Aside0.mk (blk_below G2.out hb); clear hb E2 G2; (try clear d0 d1 e0 e1); have d0 := Lib.frozen_of_heap G3.out 0; have d1 := Lib.frozen_of_heap G3.out 1; have e0 : w3.cell? ⟨w.heap.size, 0, none⟩ = some (.int .i64 0) := Lib.cell_of_heap G3.out 0; have e1 : w3.cell? ⟨w.heap.size, 1, none⟩ = some (.string ⟨#[]⟩) := Lib.cell_of_heap G3.out 1) | (go_at_call 124; refine (token_isDigit.calls _ _ _ B3.out).mono ?_; rintro e w4 ⟨rfl, hd⟩; have hb := d0below hd; clear hd; have E4 := Aside0.mk (token_good.step E3.out hb); have G4 := Aside0.mk (blk_below G3.out hb); clear hb E3 G3; (try clear d0 d1 e0 e1); have d0 := Lib.frozen_of_heap G4.out 0; have d1 := Lib.frozen_of_heap G4.out 1; have e0 : w4.cell? ⟨w.heap.size, 0, none⟩ = some (.int .i64 0) := Lib.cell_of_heap G4.out 0; have e1 : w4.cell? ⟨w.heap.size, 1, none⟩ = some (.string ⟨#[]⟩) := Lib.cell_of_heap G4.out 1) | (go_at_call 126; refine (token_quoted.calls _ _ _ _ HN.out).mono ?_; rintro e w5 ⟨rfl, hd⟩; have hb := d0below hd; clear hd; have E5 := Aside0.mk (token_good.step E4.out hb); have G5 := Aside0.mk (blk_below G4.out hb); clear hb E4 G4; (try clear d0 d1 e0 e1); have d0 := Lib.frozen_of_heap G5.out 0; have d1 := Lib.frozen_of_heap G5.out 1; have e0 : w5.cell? ⟨w.heap.size, 0, none⟩ = some (.int .i64 0) := Lib.cell_of_heap G5.out 0; have e1 : w5.cell? ⟨w.heap.size, 1, none⟩ = some (.string ⟨#[]⟩) := Lib.cell_of_heap G5.out 1))
      refine bodyPost_ret (results_ct rfl _ _ w.heap.size 23 #[.int .i64 6, .string (a0.extract 0 n.toNat)] (0, 0) _ rfl (by (with_reducible repeat (first | refine blk_drewN ?_ _ | refine blk_drew ?_)); refine blk_put (cs := #[.int .i64 6, .string ⟨#[]⟩]) ?_ 1 _ rfl; (with_reducible repeat (first | refine blk_drewN ?_ _ | refine blk_drew ?_)); refine blk_put (cs := #[.int .i64 0, .string ⟨#[]⟩]) ?_ 0 _ rfl; (with_reducible repeat (first | refine blk_drewN ?_ _ | refine blk_drew ?_)); exact G5.out) Try.underlying23 rfl (by kernel_rfl)) rfl ?_; exact ⟨by first | rfl | simp, by repeat (first | exact E5.out | apply pw_below_drewN | apply below_drew1 | refine below_set ?_ (Nat.le_refl _))⟩
     ·rw [if_neg c] at h; have cb : (bt a0 0 == 34) = false := beq_eq_false_iff_ne.mpr c; obtain ⟨n, hn, h⟩ := Option.bind_eq_some_iff.mp h; have HN := Aside0.mk hn; clear hn c; obtain ⟨n0, n1, rfl, rfl, rfl⟩ := token_good.fin_some h; clear h; go_enter Try.func117, Try.ntmps117
      go_wp2_with (first | (go_at_call 119; refine (token_isBlank.calls _ _ _ B0.out).mono ?_; rintro e w1 ⟨rfl, hd⟩; have hb := d0below hd; clear hd; have E1 := Aside0.mk (token_good.step E0.out hb); have G1 := Aside0.mk (blk_below G0.out hb); clear hb E0 G0; (try clear d0 d1 e0 e1); have d0 := Lib.frozen_of_heap G1.out 0; have d1 := Lib.frozen_of_heap G1.out 1; have e0 : w1.cell? ⟨w.heap.size, 0, none⟩ = some (.int .i64 0) := Lib.cell_of_heap G1.out 0; have e1 : w1.cell? ⟨w.heap.size, 1, none⟩ = some (.string ⟨#[]⟩) := Lib.cell_of_heap G1.out 1) | (go_at_call 121; refine (strings_HasPrefix.calls _ _ _ _ B1.out).mono ?_; rintro e w2 ⟨rfl, hd⟩; have hb := d0below hd; clear hd; have E2 := Aside0.mk (token_good.step E1.out hb); have G2 := Aside0.mk (blk_below G1.out hb); clear hb E1 G1; (try clear d0 d1 e0 e1); have d0 := Lib.frozen_of_heap G2.out 0; have d1 := Lib.frozen_of_heap G2.out 1; have e0 : w2.cell? ⟨w.heap.size, 0, none⟩ = some (.int .i64 0) := Lib.cell_of_heap G2.out 0; have e1 : w2.cell? ⟨w.heap.size, 1, none⟩ = some (.string ⟨#[]⟩) := Lib.cell_of_heap G2.out 1) | (go_at_call 122; refine (token_isLetter.calls _ _ _ B2.out).mono ?_; rintro e w3 ⟨rfl, hd⟩; have hb := d0below hd; clear hd; have E3 := Aside0.mk (token_good.step E2.out hb); have G3 := Aside0.mk (blk_below G2.out hb); clear hb E2 G2; (try clear d0 d1 e0 e1); have d0 := Lib.frozen_of_heap G3.out 0; have d1 := Lib.frozen_of_heap G3.out 1; have e0 : w3.cell? ⟨w.heap.size, 0, none⟩ = some (.int .i64 0) := Lib.cell_of_heap G3.out 0; have e1 : w3.cell? ⟨w.heap.size, 1, none⟩ = some (.string ⟨#[]⟩) := Lib.cell_of_heap G3.out 1) | (go_at_call 124; refine (token_isDigit.calls _ _ _ B3.out).mono ?_; rintro e w4 ⟨rfl, hd⟩; have hb := d0below hd; clear hd; have E4 := Aside0.mk (token_good.step E3.out hb); have G4 := Aside0.mk (blk_below G3.out hb); clear hb E3 G3; (try clear d0 d1 e0 e1); have d0 := Lib.frozen_of_heap G4.out 0; have d1 := Lib.frozen_of_heap G4.out 1; have e0 : w4.cell? ⟨w.heap.size, 0, none⟩ = some (.int .i64 0) := Lib.cell_of_heap G4.out 0; have e1 : w4.cell? ⟨w.heap.size, 1, none⟩ = some (.string ⟨#[]⟩) := Lib.cell_of_heap G4.out 1) | (go_at_call 127; refine (token_sign.calls _ _ _ _ HN.out).mono ?_; rintro e w5 ⟨rfl, hd⟩; have hb := hd; clear hd; have E5 := Aside0.mk (token_good.step E4.out hb); have G5 := Aside0.mk (blk_below G4.out hb); clear hb E4 G4; (try clear d0 d1 e0 e1); have d0 := Lib.frozen_of_heap G5.out 0; have d1 := Lib.frozen_of_heap G5.out 1; have e0 : w5.cell? ⟨w.heap.size, 0, none⟩ = some (.int .i64 0) := Lib.cell_of_heap G5.out 0; have e1 : w5.cell? ⟨w.heap.size, 1, none⟩ = some (.string ⟨#[]⟩) := Lib.cell_of_heap G5.out 1))
      refine bodyPost_ret (results_ct rfl _ _ w.heap.size 23 #[.int .i64 7, .string (a0.extract 0 n.toNat)] (0, 0) _ rfl (by (with_reducible repeat (first | refine blk_drewN ?_ _ | refine blk_drew ?_)); refine blk_put (cs := #[.int .i64 7, .string ⟨#[]⟩]) ?_ 1 _ rfl; (with_reducible repeat (first | refine blk_drewN ?_ _ | refine blk_drew ?_)); refine blk_put (cs := #[.int .i64 0, .string ⟨#[]⟩]) ?_ 0 _ rfl; (with_reducible repeat (first | refine blk_drewN ?_ _ | refine blk_drew ?_)); exact G5.out) Try.underlying23 rfl (by kernel_rfl)) rfl ?_; exact ⟨by first | rfl | simp, by repeat (first | exact E5.out | apply pw_below_drewN | apply below_drew1 | refine below_set ?_ (Nat.le_refl _))⟩

end Go.Proofs.Ytnafnieocpkkhaa.P

namespace Go.Proofs.Ytnafnieocpkkhaa.P
open Go.RowKit Go.Proofs.YtnafnieocpkkhaaW.PrintWords Go.Proofs.YtnafnieocpkkhaaW.PrintLast Go.Proofs.YtnafnieocpkkhaaW.PrintMore
attribute [local go_sem] max2_int min2_int max_two min_two max_three min_three max_four min_four
set_option linter.unusedVariables false
set_option linter.unusedSimpArgs false

attribute [local go_sem high] eqA23
/-! ### token_next: function 116 -/
mutual
def token_next.l0 : Nat → ByteArray → Int → Option (Int × ByteArray)
 | 0, _, _ => none
 | k + 1, x0, x5 => if x5 < (x0.size : Int) then (if 0 ≤ x5 then (token_next.j1 k x0 x5 ((bt x0 x5) != 34)) else (none)) else (token_next.j1 k x0 x5 false)
def token_next.j1 : Nat → ByteArray → Int → Bool → Option (Int × ByteArray)
 | 0, _, _, _ => none
 | k + 1, x0, x5, x29 => if x29 = true then (if 0 ≤ x5 then (if x5 ≤ (x0.size : Int) then ((token_good.f k (x0.extract (x5 : Int).toNat x0.size)).bind fun bt148 => (if bt148.2.2 = true then (some (8, x0.extract 0 (x5 : Int).toNat)) else (token_next.l0 k x0 (wrap64 (x5 + 1))))) else (none)) else (none)) else (if 0 ≤ x5 then (if x5 ≤ (x0.size : Int) then (some (8, x0.extract 0 (x5 : Int).toNat)) else (none)) else (none))
end
def token_next.f (k : Nat) (a0 : ByteArray) : Option (Int × ByteArray) := (token_good.f k a0).bind fun bt143 => (if bt143.2.2 = true then (some (bt143.1, bt143.2.1)) else (if 0 < (a0.size : Int) then (if (bt a0 0) = 34 then ((token_line.f a0).bind fun t147 => (if 0 ≤ t147 then (if t147 ≤ (a0.size : Int) then (some (8, a0.extract 0 (t147 : Int).toNat)) else (none)) else (none))) else (token_next.l0 k a0 1)) else (none)))
set_option maxHeartbeats 8000000 in
set_option maxRecDepth 100000 in
theorem token_next.calls (k : Nat) (a0 : ByteArray) (r1 : Int) (r2 : ByteArray) (w : World) (h : token_next.f k a0 = some (r1, r2)) :
  Calls Try.prog 116 #[.string a0] w fun e w' => e = .returned (.agg #[.int .i64 r1, .string r2]) ∧ Below w.heap.size w w' := by
 have hu23 := Try.underlying23; have HB := Aside0.mk (Below.refl w.heap.size w); have H : ((token_good.f k a0).bind fun bt143 => (if bt143.2.2 = true then (some (bt143.1, bt143.2.1)) else (if 0 < (a0.size : Int) then (if (bt a0 0) = 34 then ((token_line.f a0).bind fun t147 => (if 0 ≤ t147 then (if t147 ≤ (a0.size : Int) then (some (8, a0.extract 0 (t147 : Int).toNat)) else (none)) else (none))) else (token_next.l0 k a0 1)) else (none)))) = some (r1, r2) := h; clear h; replace H := Option.bind_eq_some_iff.mp H; obtain ⟨⟨t143, t144, t145⟩, A20, H⟩ := H; replace H : (if t145 = true then (some (t143, t144)) else (if 0 < (a0.size : Int) then (if (bt a0 0) = 34 then ((token_line.f a0).bind fun t147 => (if 0 ≤ t147 then (if t147 ≤ (a0.size : Int) then (some (8, a0.extract 0 (t147 : Int).toNat)) else (none)) else (none))) else (token_next.l0 k a0 1)) else (none))) = some (r1, r2) := H; have A2 := Aside0.mk A20; clear A20; by_cases c3 : t145 = true
 ·subst c3; rw [if_pos rfl] at H; simp only [Option.some.injEq, Prod.mk.injEq] at H; obtain ⟨rfl, rfl⟩ := H; go_enter Try.func116, Try.ntmps116
  go_wp2_with (first | ((with_reducible refine zD 2 rfl ?_); refine zx 2 #[.int .i64 0, .string (⟨#[]⟩ : ByteArray)] 23 ?_; intro gb142 hg w4 hbox hb; have BK142 := Aside0.mk (hbox); have GW142 := (zq hg : Aside0 (w.heap.size ≤ gb142)); have GE142 := GW142; replace HB := (zB hb); clear hb hbox hg) | ((with_reducible refine zG 117 rfl ?_); refine zg 10 Try.func117 ((token_good.calls k a0 t143 t144 true _ A2.out).mono ?_); rintro e w5 ⟨rfl, hb⟩; refine ⟨_, rfl, ?_⟩; replace BK142 := (zK BK142 hb); replace HB := (zB hb); (try clear hb); (try clear hb2); (try clear hk); (try clear hi)) | ((with_reducible refine zD 3 rfl ?_); refine zx 3 #[.int .i64 0, .string (⟨#[]⟩ : ByteArray)] 23 ?_; intro gb146 hg w6 hbox hb; have BK146 := Aside0.mk (hbox); have GW146 := (zq hg : Aside0 (w.heap.size ≤ gb146)); have GE146 := GW146; replace HB := (zB hb); have NB142_146 := (zl hg BK142 : Aside0 (gb142 ≠ gb146)); have NB146_142 := (zl' hg BK142 : Aside0 (gb146 ≠ gb142)); replace BK142 := (zK BK142 hb); clear hb hbox hg; have hnb7 := NB146_142.out; have hnc7 := NB142_146.out; obtain ⟨hcz8_0, hcz8_1⟩ := zc2 BK146; obtain ⟨hfz8_0, hfz8_1⟩ := zz2 BK146; obtain ⟨hcz9_0, hcz9_1⟩ := zc2 BK142; obtain ⟨hfz9_0, hfz9_1⟩ := zz2 BK142))
  refine bodyPost_ret (results_cell_row rfl _ _ gb142 23 #[.int .i64 t143, .string t144] (0, 0) _ rfl zw Try.underlying23 rfl (by kernel_rfl)) rfl ?_; exact ⟨zr, zb⟩
 ·replace c3 := Bool.eq_false_iff.mpr c3; subst c3; replace H := zf H; replace H := zi H; obtain ⟨c10, H⟩ := H; have c10b0 := decide_eq_true c10; have c10b1 : decide (0 < a0.size) = true := decide_eq_true (by omega); clear c10; by_cases c12 : (bt a0 0) = 34
  ·rw [if_pos c12] at H; have c12b0 : ((bt a0 0) == 34) = true := beq_iff_eq.mpr c12; have c12b1 : ((bt a0 0) != 34) = false := bne_eq_false_iff_eq.mpr c12; clear c12; replace H := zo H; obtain ⟨t147, A13, H⟩ := H; replace H := zi2 H; obtain ⟨c14b0, c14b1, H⟩ := H; replace H := zi2 H; obtain ⟨c15b0, c15b1, H⟩ := H; simp only [Option.some.injEq, Prod.mk.injEq] at H; obtain ⟨rfl, rfl⟩ := H; go_enter Try.func116, Try.ntmps116
   go_wp2_with (first | ((with_reducible refine zD 2 rfl ?_); refine zx 2 #[.int .i64 0, .string (⟨#[]⟩ : ByteArray)] 23 ?_; intro gb142 hg w16 hbox hb; have BK142 := Aside0.mk (hbox); have GW142 := (zq hg : Aside0 (w.heap.size ≤ gb142)); have GE142 := GW142; replace HB := (zB hb); clear hb hbox hg) | ((with_reducible refine zG 117 rfl ?_); refine zg 10 Try.func117 ((token_good.calls k a0 t143 t144 false _ A2.out).mono ?_); rintro e w17 ⟨rfl, hb⟩; refine ⟨_, rfl, ?_⟩; replace BK142 := (zK BK142 hb); replace HB := (zB hb); (try clear hb); (try clear hb2); (try clear hk); (try clear hi)) | ((with_reducible refine zD 3 rfl ?_); refine zx 3 #[.int .i64 0, .string (⟨#[]⟩ : ByteArray)] 23 ?_; intro gb146 hg w18 hbox hb; have BK146 := Aside0.mk (hbox); have GW146 := (zq hg : Aside0 (w.heap.size ≤ gb146)); have GE146 := GW146; replace HB := (zB hb); have NB142_146 := (zl hg BK142 : Aside0 (gb142 ≠ gb146)); have NB146_142 := (zl' hg BK142 : Aside0 (gb146 ≠ gb142)); replace BK142 := (zK BK142 hb); clear hb hbox hg; have hnb19 := NB146_142.out; have hnc19 := NB142_146.out; obtain ⟨hcz20_0, hcz20_1⟩ := zc2 BK146; obtain ⟨hfz20_0, hfz20_1⟩ := zz2 BK146; have p11 : 0 ≤ (0 : Int) := (by omega); have q11 : 0 < a0.size := (by have : (0 : Int) < (a0.size : Int) := zt; omega); have hx11 : ∀ h : 0 < a0.size, ((a0[0]'h).toNat : Int) = bt a0 0 := bt_at a0 0; clear p11; have qi11 : (0 < (a0.size : Int)) = True := eq_true (zt); replace q11 := eq_true q11) | ((with_reducible refine zG 118 rfl ?_); refine zg 19 Try.func118 ((token_line.calls a0 t147 _ A13.out).mono ?_); rintro e w' ⟨rfl, ⟨nd, rfl⟩⟩; refine ⟨_, rfl, ?_⟩; obtain ⟨hcz21_0, hcz21_1⟩ := zc2 BK142; obtain ⟨hfz21_0, hfz21_1⟩ := zz2 BK142))
   refine bodyPost_ret (results_cell_row rfl _ _ gb142 23 #[.int .i64 8, .string (a0.extract 0 (t147 : Int).toNat)] (0, 0) _ rfl zw Try.underlying23 rfl (by kernel_rfl)) rfl ?_; exact ⟨zr, zb⟩
  ·rw [if_neg c12] at H; have c12b0 : ((bt a0 0) == 34) = false := beq_eq_false_iff_ne.mpr c12; have c12b1 : ((bt a0 0) != 34) = true := bne_iff_ne.mpr c12; have H' := Aside0.mk H; clear H; go_enter Try.func116, Try.ntmps116
   go_wp2_with (first | ((with_reducible refine zD 2 rfl ?_); refine zx 2 #[.int .i64 0, .string (⟨#[]⟩ : ByteArray)] 23 ?_; intro gb142 hg w22 hbox hb; have BK142 := Aside0.mk (hbox); have GW142 := (zq hg : Aside0 (w.heap.size ≤ gb142)); have GE142 := GW142; replace HB := (zB hb); clear hb hbox hg) | ((with_reducible refine zG 117 rfl ?_); refine zg 10 Try.func117 ((token_good.calls k a0 t143 t144 false _ A2.out).mono ?_); rintro e w23 ⟨rfl, hb⟩; refine ⟨_, rfl, ?_⟩; replace BK142 := (zK BK142 hb); replace HB := (zB hb); (try clear hb); (try clear hb2); (try clear hk); (try clear hi)) | ((with_reducible refine zD 3 rfl ?_); refine zx 3 #[.int .i64 0, .string (⟨#[]⟩ : ByteArray)] 23 ?_; intro gb146 hg w24 hbox hb; have BK146 := Aside0.mk (hbox); have GW146 := (zq hg : Aside0 (w.heap.size ≤ gb146)); have GE146 := GW146; replace HB := (zB hb); have NB142_146 := (zl hg BK142 : Aside0 (gb142 ≠ gb146)); have NB146_142 := (zl' hg BK142 : Aside0 (gb146 ≠ gb142)); replace BK142 := (zK BK142 hb); clear hb hbox hg; have hnb25 := NB146_142.out; have hnc25 := NB142_146.out; obtain ⟨hcz26_0, hcz26_1⟩ := zc2 BK146; obtain ⟨hfz26_0, hfz26_1⟩ := zz2 BK146; have p11 : 0 ≤ (0 : Int) := (by omega); have q11 : 0 < a0.size := (by have : (0 : Int) < (a0.size : Int) := zt; omega); have hx11 : ∀ h : 0 < a0.size, ((a0[0]'h).toNat : Int) = bt a0 0 := bt_at a0 0; clear p11; have qi11 : (0 < (a0.size : Int)) = True := eq_true (zt); replace q11 := eq_true q11))
   go_loopg [5] k (fun kq v5 w' => ∃ (x5_1 : Int), v5 = .int .i64 x5_1 ∧ Aside0 (token_next.l0 kq a0 x5_1 = some (r1, r2)) ∧ Aside0 (kq ≤ k) ∧ Aside0 (w'.heap[gb142]? = some (.cells #[.int .i64 0, .string (⟨#[]⟩ : ByteArray)] 23 (0, 0))) ∧ Aside0 (w'.heap[gb146]? = some (.cells #[.int .i64 t143, .string t144] 23 (0, 0))) ∧ Aside0 (Below w.heap.size w w'))
   case atStart => exact ⟨(1), zs, H', ⟨Nat.le_refl _⟩, ⟨zw⟩, ⟨zw⟩, ⟨zb⟩⟩
   case round =>
    clear H'; obtain ⟨x5_1, rfl, HA, HK1, BK142, BK146, HB⟩ := hrel
    cases gk with
    | zero => exact absurd HA.out (by simp [token_next.l0])
    | succ k1 =>
     have H := HA.out; clear HA; simp only [token_next.l0] at H; have HC27 := Aside0.mk H; clear H
     go_upto_region 7 with (fail)
     go_cut [29] (fun v29 wc => ∃ (kq : Nat) (x29_26 : Bool), v29 = .bool x29_26 ∧ Aside0 (token_next.j1 kq a0 x5_1 x29_26 = some (r1, r2)) ∧ Aside0 (kq ≤ k1) ∧ Aside0 (wc.heap[gb142]? = some (.cells #[.int .i64 0, .string (⟨#[]⟩ : ByteArray)] 23 (0, 0))) ∧ Aside0 (wc.heap[gb146]? = some (.cells #[.int .i64 t143, .string t144] 23 (0, 0))) ∧ Aside0 (Below w.heap.size w wc))
     case first =>
      have H := HC27.out; clear HC27; by_cases c28 : x5_1 < (a0.size : Int)
      ·rw [if_pos c28] at H; have c28b0 := decide_eq_true c28; clear c28
       (first | rw [c28b0] | (simp only [i64_w, i32_w]; rw [c28b0]) | skip)
       replace H := zi1 H; obtain ⟨c29b0, H⟩ := H; have H' := Aside0.mk H; clear H; have p30 : (0 ≤ (x5_1 : Int)) = True := zT; have q30 : (x5_1 < (a0.size : Int)) = True := zT; have hx30 := bt_at a0 x5_1; go_wp2
       go_meet
       case rel => exact ⟨_, (((bt a0 x5_1) != 34)), zs, H', zk, (zA BK142), (zA BK146), ⟨zb⟩⟩
      ·rw [if_neg c28] at H; have c28b0 := decide_eq_false c28; clear c28
       (first | rw [c28b0] | (simp only [i64_w, i32_w]; rw [c28b0]) | skip)
       have H' := Aside0.mk H; clear H; go_wp2
       go_meet
       case rel => exact ⟨_, (false), zs, H', zk, (zA BK142), (zA BK146), ⟨zb⟩⟩
     case rest =>
      clear HC27; obtain ⟨kq, x29_26, rfl, HA, HJ26, BK142, BK146, HB⟩ := hcut
      cases kq with
      | zero => exact absurd HA.out (by simp [token_next.j1])
      | succ kj26 =>
       have H := HA.out; clear HA; simp only [token_next.j1] at H; by_cases c31 : x29_26 = true
       ·subst c31; rw [if_pos rfl] at H; replace H := zi2 H; obtain ⟨c32b0, c32b1, H⟩ := H; replace H := zi2 H; obtain ⟨c33b0, c33b1, H⟩ := H; replace H := Option.bind_eq_some_iff.mp H; obtain ⟨⟨t148, t149, t150⟩, A340, H⟩ := H; replace H : (if t150 = true then (some (8, a0.extract 0 (x5_1 : Int).toNat)) else (token_next.l0 kj26 a0 (wrap64 (x5_1 + 1)))) = some (r1, r2) := H; have A34 := Aside0.mk A340; clear A340; by_cases c35 : t150 = true
        ·subst c35; rw [if_pos rfl] at H; have c36b0 := eq_true (zt : 0 ≤ x5_1); have c37b0 := eq_true (zt : x5_1 ≤ (a0.size : Int)); simp only [Option.some.injEq, Prod.mk.injEq] at H; obtain ⟨rfl, rfl⟩ := H
         go_wp2_with (first | ((with_reducible refine zG 117 rfl ?_); refine zg 34 Try.func117 ((token_good.calls kj26 (a0.extract (x5_1 : Int).toNat a0.size) t148 t149 true _ A34.out).mono ?_); rintro e w38 ⟨rfl, hb⟩; refine ⟨_, rfl, ?_⟩; replace BK142 := (zK BK142 hb); replace BK146 := (zK BK146 hb); replace HB := (zB hb); (try clear hb); (try clear hb2); (try clear hk); (try clear hi)) | ((with_reducible refine zD 6 rfl ?_); refine zx 6 #[.int .i64 0, .string (⟨#[]⟩ : ByteArray)] 23 ?_; intro gb151 hg w39 hbox hb; have BK151 := Aside0.mk (hbox); have GW151 := (zq hg : Aside0 (w.heap.size ≤ gb151)); have GE151 := GW151; replace HB := (zB hb); have NB142_151 := (zl hg BK142 : Aside0 (gb142 ≠ gb151)); have NB151_142 := (zl' hg BK142 : Aside0 (gb151 ≠ gb142)); replace BK142 := (zK BK142 hb); have NB146_151 := (zl hg BK146 : Aside0 (gb146 ≠ gb151)); have NB151_146 := (zl' hg BK146 : Aside0 (gb151 ≠ gb146)); replace BK146 := (zK BK146 hb); clear hb hbox hg; have hnb40 := NB151_142.out; have hnc40 := NB142_151.out; have hnb41 := NB151_146.out; have hnc41 := NB146_151.out; obtain ⟨hcz42_0, hcz42_1⟩ := zc2 BK151; obtain ⟨hfz42_0, hfz42_1⟩ := zz2 BK151; have hnb43 := NB142_146.out; have hnc43 := NB146_142.out; obtain ⟨hcz44_0, hcz44_1⟩ := zc2 BK142; obtain ⟨hfz44_0, hfz44_1⟩ := zz2 BK142))
         refine bodyPost_ret (results_cell_row rfl _ _ gb142 23 #[.int .i64 8, .string (a0.extract 0 (x5_1 : Int).toNat)] (0, 0) _ rfl zw Try.underlying23 rfl (by kernel_rfl)) rfl ?_; exact ⟨zr, zb⟩
        ·replace c35 := Bool.eq_false_iff.mpr c35; subst c35; replace H := zf H; have H' := Aside0.mk H; clear H
         go_wp2_with (first | ((with_reducible refine zG 117 rfl ?_); refine zg 34 Try.func117 ((token_good.calls kj26 (a0.extract (x5_1 : Int).toNat a0.size) t148 t149 false _ A34.out).mono ?_); rintro e w45 ⟨rfl, hb⟩; refine ⟨_, rfl, ?_⟩; replace BK142 := (zK BK142 hb); replace BK146 := (zK BK146 hb); replace HB := (zB hb); (try clear hb); (try clear hb2); (try clear hk); (try clear hi)) | ((with_reducible refine zD 6 rfl ?_); refine zx 6 #[.int .i64 0, .string (⟨#[]⟩ : ByteArray)] 23 ?_; intro gb151 hg w46 hbox hb; have BK151 := Aside0.mk (hbox); have GW151 := (zq hg : Aside0 (w.heap.size ≤ gb151)); have GE151 := GW151; replace HB := (zB hb); have NB142_151 := (zl hg BK142 : Aside0 (gb142 ≠ gb151)); have NB151_142 := (zl' hg BK142 : Aside0 (gb151 ≠ gb142)); replace BK142 := (zK BK142 hb); have NB146_151 := (zl hg BK146 : Aside0 (gb146 ≠ gb151)); have NB151_146 := (zl' hg BK146 : Aside0 (gb151 ≠ gb146)); replace BK146 := (zK BK146 hb); clear hb hbox hg; have hnb47 := NB151_142.out; have hnc47 := NB142_151.out; have hnb48 := NB151_146.out; have hnc48 := NB146_151.out; obtain ⟨hcz49_0, hcz49_1⟩ := zc2 BK151; obtain ⟨hfz49_0, hfz49_1⟩ := zz2 BK151))
         go_roundg kj26
         case measure => have := HK1.out; have := HJ26.out; omega
         case rel => exact ⟨(wrap64 (x5_1 + 1)), zs, H', ⟨by have := HK1.out; have := HJ26.out; omega⟩, ⟨zw⟩, ⟨zw⟩, ⟨zb⟩⟩
       ·replace c31 := Bool.eq_false_iff.mpr c31; subst c31; replace H := zf H; replace H := zi2 H; obtain ⟨c50b0, c50b1, H⟩ := H; replace H := zi2 H; obtain ⟨c51b0, c51b1, H⟩ := H; simp only [Option.some.injEq, Prod.mk.injEq] at H; obtain ⟨rfl, rfl⟩ := H; have hnb52 := NB142_146.out; have hnc52 := NB146_142.out; obtain ⟨hcz53_0, hcz53_1⟩ := zc2 BK142; obtain ⟨hfz53_0, hfz53_1⟩ := zz2 BK142; go_wp2; refine bodyPost_ret (results_cell_row rfl _ _ gb142 23 #[.int .i64 8, .string (a0.extract 0 (x5_1 : Int).toNat)] (0, 0) _ rfl zw Try.underlying23 rfl (by kernel_rfl)) rfl ?_; exact ⟨zr, zb⟩

/-! ### token_Lex: function 113 -/
def token_Lex.l0 : Nat → ByteArray → List (S23) → Option ((List (S23)) × Int)
 | 0, _, _ => none
 | k + 1, x0, x4 => if x0.toList = ([] : List UInt8) then (some (x4, 0)) else ((token_next.f k x0).bind fun bt152 => (if 0 ≤ (bt152.2.size : Int) then (if (bt152.2.size : Int) ≤ (x0.size : Int) then (if x4.length < 5864062014805 then (token_Lex.l0 k (x0.extract ((bt152.2.size : Int) : Int).toNat x0.size) (x4 ++ [(⟨bt152.1, bt152.2⟩ : S23)])) else (none)) else (none)) else (none)))
def token_Lex.f (k : Nat) (a0 : ByteArray) : Option ((List (S23)) × Int) := if (a0.size : Int) > 20000 then (some (([] : List (S23)), 3)) else (token_Lex.l0 k a0 ([] : List (S23)))
set_option maxHeartbeats 8000000 in
set_option maxRecDepth 100000 in
theorem token_Lex.calls (k : Nat) (a0 : ByteArray) (r1 : List (S23)) (r2 : Int) (w : World) (h : token_Lex.f k a0 = some (r1, r2)) :
  Calls Try.prog 113 #[.string a0] w fun e w' => ∃ v0_ : Value, e = .returned (.tuple #[v0_, .int .i64 r2]) ∧ Kd.R k23 23 w' w.heap.size (fun _ => True) v0_ r1 ∧ Below w.heap.size w w' := by
 have hu23 := Try.underlying23; have HB := Aside0.mk (Below.refl w.heap.size w); have H : (if (a0.size : Int) > 20000 then (some (([] : List (S23)), 3)) else (token_Lex.l0 k a0 ([] : List (S23)))) = some (r1, r2) := h; clear h; by_cases c2 : (a0.size : Int) > 20000
 ·rw [if_pos c2] at H; have c2b0 := decide_eq_true c2; have c2b1 : decide (20000 < a0.size) = true := decide_eq_true (by omega); clear c2; simp only [Option.some.injEq, Prod.mk.injEq] at H; obtain ⟨rfl, rfl⟩ := H; go_enter Try.func113, Try.ntmps113; go_wp2
  go_ret2
  exact ⟨_, zr, by first | exact Kd.R_nil _ _ _ _ _ | exact Kd.N_nil _ _ _ _ _ | exact Kd.V_nil _ _ _ _ _ | exact Kd.Q_nil _ _ _ _ _ | exact Kd.S_nil _ _ _ _ _, zb⟩
 ·rw [if_neg c2] at H; have c2b0 := decide_eq_false c2; have c2b1 : decide (20000 < a0.size) = false := decide_eq_false (by omega); clear c2; have H' := Aside0.mk H; clear H; go_enter Try.func113, Try.ntmps113; go_wp2
  go_loopg [0, 4] k (fun kq v0 v4 w' => ∃ (x0_1 : ByteArray) (x4_1 : List (S23)), v0 = .string x0_1 ∧ Aside0 (token_Lex.l0 kq x0_1 x4_1 = some (r1, r2)) ∧ Aside0 (kq ≤ k) ∧ Aside0 (Kd.R k23 23 w' w.heap.size (fun _ => True) v4 x4_1) ∧ Aside0 (Below w.heap.size w w'))
  case atStart => exact ⟨(a0), (([] : List (S23))), zs, H', ⟨Nat.le_refl _⟩, ⟨by first | exact Kd.R_nil _ _ _ _ _ | exact Kd.N_nil _ _ _ _ _ | exact Kd.V_nil _ _ _ _ _ | exact Kd.Q_nil _ _ _ _ _ | exact Kd.S_nil _ _ _ _ _⟩, ⟨zb⟩⟩
  case round =>
   clear H'; obtain ⟨x0_1, x4_1, rfl, HA, HK1, HO_4, HB⟩ := hrel
   cases gk with
   | zero => exact absurd HA.out (by simp [token_Lex.l0])
   | succ k1 =>
    have H := HA.out; clear HA; simp only [token_Lex.l0] at H; by_cases c3 : x0_1.toList = ([] : List UInt8)
    ·rw [if_pos c3] at H; have c3b0 : (x0_1.toList == ([] : List UInt8)) = true := beq_iff_eq.mpr c3; have c3b1 : (x0_1.toList != ([] : List UInt8)) = false := bne_eq_false_iff_eq.mpr c3; clear c3; simp only [Option.some.injEq, Prod.mk.injEq] at H; obtain ⟨rfl, rfl⟩ := H; go_wp2
     go_ret2
     exact ⟨_, zr, by (with_reducible repeat (first | apply Kd.R_alloc | apply Kd.R_drewN | apply Kd.R_drew)); exact HO_4.out, zb⟩
    ·rw [if_neg c3] at H; have c3b0 : (x0_1.toList == ([] : List UInt8)) = false := beq_eq_false_iff_ne.mpr c3; have c3b1 : (x0_1.toList != ([] : List UInt8)) = true := bne_iff_ne.mpr c3; replace H := Option.bind_eq_some_iff.mp H; obtain ⟨⟨t152, t153⟩, A40, H⟩ := H; replace H : (if 0 ≤ (t153.size : Int) then (if (t153.size : Int) ≤ (x0_1.size : Int) then (if x4_1.length < 5864062014805 then (token_Lex.l0 k1 (x0_1.extract ((t153.size : Int) : Int).toNat x0_1.size) (x4_1 ++ [(⟨t152, t153⟩ : S23)])) else (none)) else (none)) else (none)) = some (r1, r2) := H; have A4 := Aside0.mk A40; clear A40; replace H := zi2 H; obtain ⟨c5b0, c5b1, H⟩ := H; replace H := zi2 H; obtain ⟨c6b0, c6b1, H⟩ := H; replace H := zi H; obtain ⟨c7, H⟩ := H; have LMc7 := Aside0.mk c7; clear c7
     obtain ⟨y155, hy155⟩ : ∃ y_ : List (S23), y_ = (x4_1 ++ [(⟨t152, t153⟩ : S23)]) := ⟨_, rfl⟩
     replace H : (token_Lex.l0 k1 (x0_1.extract ((t153.size : Int) : Int).toNat x0_1.size) y155) = some (r1, r2) := by first | (rw [hy155]; with_reducible exact H) | (have H2_ := (Option.bind_some _ _).symm.trans H; rw [hy155]; with_reducible exact H2_) | (have H2_ := (Option.bind_some _ _).symm.trans H; with_reducible exact H2_) | with_reducible exact H | (rw [hy155]; exact H) | exact H
     have Ny155 := Aside0.mk hy155; clear hy155; have H' := Aside0.mk H; clear H
     go_wp2_with (first | ((with_reducible refine zG 116 rfl ?_); refine zg 12 Try.func116 ((token_next.calls k1 x0_1 t152 t153 _ A4.out).mono ?_); rintro e w8 ⟨rfl, hb⟩; refine ⟨_, rfl, ?_⟩; replace HO_4 := (zRb HO_4 hb); replace HB := (zB hb); (try clear hb); (try clear hb2); (try clear hk); (try clear hi)) | ((with_reducible refine zD 5 rfl ?_); refine zx 5 #[.int .i64 0, .string (⟨#[]⟩ : ByteArray)] 23 ?_; intro gb154 hg w9 hbox hb; replace HO_4 := Aside0.mk (Kd.R_below (Kd.R_elderB (zR HO_4) gb154 (Nat.le_of_eq hg.symm)) hb); have BK154 := Aside0.mk (hbox); have GW154 := (zq hg : Aside0 (w.heap.size ≤ gb154)); have GE154 := GW154; replace HB := (zB hb); clear hb hbox hg; obtain ⟨hcz10_0, hcz10_1⟩ := zc2 BK154; obtain ⟨hfz10_0, hfz10_1⟩ := zz2 BK154) | ((with_reducible refine gate_builtin (b := .append) (xs := #[.tmp 18, .tmp 20]) rfl ?_); at_builtin; refine Kd.R_append k23 (w0 := w) w.heap.size rfl (.tmp 18) (.tmp 20) 51 23 (.agg #[(.int .i64 0), (.string ⟨#[]⟩)]) 24 rfl Try.underlying51 info23 rfl (by decide) (by omega) u4 x4_1 (⟨t152, t153⟩ : S23) [.int .i64 t152, .string t153] (fun k_ => k_ ≠ gb154) (fun _ => False) rfl (by first | (go_simp; done) | (go_simp; rfl)) ?aP (fun _ hk => hk.elim) ?aF ?aO ?aB ?aS ?aL ?_; (case aP => exact k23_mkM _ _ _ (⟨t152, t153⟩ : S23)); (case aB => exact zb); (case aF => exact (fun k_ hk => Kd.freshB (g := gb154) (o := .cells #[.int .i64 t152, .string t153] 23 (0, 0)) zw k_ hk)); (case aO => exact (by (with_reducible repeat (first | apply Kd.R_alloc | apply Kd.R_drewN | apply Kd.R_drew)); exact Kd.R_mono (Kd.R_far (p := ⟨gb154, 1, none⟩) (Kd.R_far (p := ⟨gb154, 0, none⟩) (Kd.R_mono HO_4.out (fun k_ hk => (⟨hk, hk.2⟩ : _ ∧ k_ ≠ gb154))) (fun _ hk => hk.2) (.int .i64 t152)) (fun _ hk => hk.2) (.string t153)) (fun _ hk => hk.1.2))); (case aS => exact (below_size zb)); (case aL => have := LMc7.out; omega); intro v156 w11 ho hb hg hat; rw [← Ny155.out] at ho; replace BK154 := Aside0.mk (blk_grown (g := gb154) (o := .cells #[.int .i64 t152, .string t153] 23 (0, 0)) zw hg (Kd.R_away HO_4.out (fun _ hk => hk.2))); replace HB := Aside0.mk (hb); have HO157 := Aside0.mk (ho); clear HO_4; clear ho hb hg hat))
     go_roundg k1
     case measure => have := HK1.out; omega
     case rel => exact ⟨(x0_1.extract ((t153.size : Int) : Int).toNat x0_1.size), (y155), zs, H', zk, ⟨by (with_reducible repeat (first | apply Kd.R_alloc | apply Kd.R_drewN | apply Kd.R_drew)); exact Kd.R_mono HO157.out (fun _ hk => trivial)⟩, ⟨zb⟩⟩

/-! ### api_Token: function 114 -/
def api_Token.l0 : Nat → List (S23) → List (S23) → Int → Int → Option (Bool)
 | 0, _, _, _, _ => none
 | k + 1, x0, x1, x12, x13 => if x13 < x12 then (if 0 ≤ x13 then (if x13 < (x0.length : Int) then (if x13 < (x1.length : Int) then (if (!(((rd_T23 x0 x13).f0) == ((rd_T23 x1 x13).f0)) || (!((((rd_T23 x0 x13).f1).toList) == (((rd_T23 x1 x13).f1).toList)))) = true then (some false) else (api_Token.l0 k x0 x1 x12 (wrap64 (x13 + 1)))) else (none)) else (none)) else (none)) else (some true)
def api_Token.f (k : Nat) (l0 : List (S23)) (l1 : List (S23)) : Option (Bool) := if (l0.length : Int) = (l1.length : Int) then (api_Token.l0 k l0 l1 (l0.length : Int) 0) else (some false)
set_option maxHeartbeats 8000000 in
set_option maxRecDepth 100000 in
theorem api_Token.calls (k : Nat) (A0 : Option Addr) (c0 : Nat) (l0 : List (S23)) (A1 : Option Addr) (c1 : Nat) (l1 : List (S23)) (r : Bool) (w : World) (hr0 : Kd.C k23 w A0 l0.length l0) (hc0 : l0.length ≤ c0) (hr1 : Kd.C k23 w A1 l1.length l1) (hc1 : l1.length ≤ c1) (h : api_Token.f k l0 l1 = some r) :
  Calls Try.prog 114 #[.slice A0 l0.length c0, .slice A1 l1.length c1] w fun e w' => e = .returned (.bool r) ∧ Drawn0 w w' := by
 have hu23 := Try.underlying23; have HR0 := Aside0.mk hr0; have HC0 := Aside0.mk hc0; clear hr0 hc0; have HR1 := Aside0.mk hr1; have HC1 := Aside0.mk hc1; clear hr1 hc1; have H : (if (l0.length : Int) = (l1.length : Int) then (api_Token.l0 k l0 l1 (l0.length : Int) 0) else (some false)) = some r := h; clear h; by_cases c3 : (l0.length : Int) = (l1.length : Int)
 ·rw [if_pos c3] at H; have c3b0 : ((l0.length : Int) == (l1.length : Int)) = true := beq_iff_eq.mpr c3; have c3b1 : ((l0.length : Int) != (l1.length : Int)) = false := bne_eq_false_iff_eq.mpr c3
  have c3b2 : (l0.length == l1.length) = true := (by first | simpa using c3 | (simp at c3 ⊢; omega))
  clear c3; have H' := Aside0.mk H; clear H; go_enter Try.func114, Try.ntmps114; go_wp2
  repeat (go_quiet (fail); try go_wp2)
  go_loopg [13] k (fun kq v13 w' => ∃ (x13_1 : Int), v13 = .int .i64 x13_1 ∧ Aside0 (api_Token.l0 kq l0 l1 (l0.length : Int) x13_1 = some r) ∧ Aside0 (kq ≤ k) ∧ Drawn0 w w')
  case atStart => exact ⟨(0), zs, H', ⟨Nat.le_refl _⟩, zX⟩
  case round =>
   clear H'; obtain ⟨x13_1, rfl, HA, HK1, ⟨m1, rfl⟩⟩ := hrel
   cases gk with
   | zero => exact absurd HA.out (by simp [api_Token.l0])
   | succ k1 =>
    have H := HA.out; clear HA; simp only [api_Token.l0] at H; by_cases c4 : x13_1 < (l0.length : Int)
    ·rw [if_pos c4] at H; have c4b0 := decide_eq_true c4; clear c4; replace H := zi1 H; obtain ⟨c5b0, H⟩ := H; replace H := zi1 H; obtain ⟨c6b0, H⟩ := H; replace H := zi1 H; obtain ⟨c7b0, H⟩ := H; by_cases c8 : (!(((rd_T23 l0 x13_1).f0) == ((rd_T23 l1 x13_1).f0)) || (!((((rd_T23 l0 x13_1).f1).toList) == (((rd_T23 l1 x13_1).f1).toList)))) = true
     ·rw [if_pos c8] at H; have c8b0 : (!(((rd_T23 l0 x13_1).f0) == ((rd_T23 l1 x13_1).f0)) || (!((((rd_T23 l0 x13_1).f1).toList) == (((rd_T23 l1 x13_1).f1).toList)))) = true := c8; clear c8; obtain rfl := Option.some.inj H; have p158 : 0 ≤ (x13_1 : Int) := zt; have q158 : x13_1 < (l0.length : Int) := zt; obtain ⟨ad158, e158, hx158_0, hx158_1⟩ := at_T23 HR0.out x13_1 p158 q158
      cases e158
      replace p158 := eq_true p158; replace q158 := eq_true q158; have p159 : 0 ≤ (x13_1 : Int) := zt; have q159 : x13_1 < (l1.length : Int) := zt; obtain ⟨ad159, e159, hx159_0, hx159_1⟩ := at_T23 HR1.out x13_1 p159 q159
      cases e159
      replace p159 := eq_true p159; replace q159 := eq_true q159; go_wp2
      repeat (go_quiet (fail); try go_wp2)
      go_ret; exact ⟨zs, zX⟩
     ·rw [if_neg c8] at H
      have c8b0 : (!(((rd_T23 l0 x13_1).f0) == ((rd_T23 l1 x13_1).f0)) || (!((((rd_T23 l0 x13_1).f1).toList) == (((rd_T23 l1 x13_1).f1).toList)))) = false := (by simpa using c8)
      clear c8; have H' := Aside0.mk H; clear H; have p158 : 0 ≤ (x13_1 : Int) := zt; have q158 : x13_1 < (l0.length : Int) := zt; obtain ⟨ad158, e158, hx158_0, hx158_1⟩ := at_T23 HR0.out x13_1 p158 q158
      cases e158
      replace p158 := eq_true p158; replace q158 := eq_true q158; have p159 : 0 ≤ (x13_1 : Int) := zt; have q159 : x13_1 < (l1.length : Int) := zt; obtain ⟨ad159, e159, hx159_0, hx159_1⟩ := at_T23 HR1.out x13_1 p159 q159
      cases e159
      replace p159 := eq_true p159; replace q159 := eq_true q159; go_wp2
      repeat (go_quiet (fail); try go_wp2)
      go_roundg k1
      case measure => have := HK1.out; omega
      case rel => exact ⟨(wrap64 (x13_1 + 1)), zs, H', zk, zX⟩
    ·rw [if_neg c4] at H; have c4b0 := decide_eq_false c4; clear c4; obtain rfl := Option.some.inj H; go_wp2
     repeat (go_quiet (fail); try go_wp2)
     go_ret; exact ⟨zs, zX⟩
 ·rw [if_neg c3] at H; have c3b0 : ((l0.length : Int) == (l1.length : Int)) = false := beq_eq_false_iff_ne.mpr c3; have c3b1 : ((l0.length : Int) != (l1.length : Int)) = true := bne_iff_ne.mpr c3
  have c3b2 : (l0.length == l1.length) = false := (by first | simpa using c3 | (simp at c3 ⊢; omega))
  obtain rfl := Option.some.inj H; go_enter Try.func114, Try.ntmps114; go_wp2
  repeat (go_quiet (fail); try go_wp2)
  go_ret; exact ⟨zs, zX⟩

/-! ### token_Text: function 110 -/
def token_Text.j0 : Nat → List (S23) → ByteArray → Bool → Option (ByteArray × Int)
 | 0, _, _, _ => none
 | k + 1, x0, x4, x19 => if x19 = true then (some ((⟨#[]⟩ : ByteArray), 3)) else ((token_Lex.f k x4).bind fun bt162 => ((api_Token.f k bt162.1 x0).bind fun t166 => (if t166 = true then (some (x4, 0)) else (some ((⟨#[]⟩ : ByteArray), 4)))))
def token_Text.f (k : Nat) (l0 : List (S23)) : Option (ByteArray × Int) := (token_joined.f l0).bind fun bt160 => (if bt160.2 = true then (token_Text.j0 k l0 bt160.1 (decide ((l0.length : Int) > 20000))) else (token_Text.j0 k l0 bt160.1 true))
set_option maxHeartbeats 8000000 in
set_option maxRecDepth 100000 in
theorem token_Text.calls (k : Nat) (A0 : Option Addr) (c0 : Nat) (l0 : List (S23)) (r1 : ByteArray) (r2 : Int) (w : World) (hr0 : Kd.C k23 w A0 l0.length l0) (hc0 : l0.length ≤ c0) (h : token_Text.f k l0 = some (r1, r2)) :
  Calls Try.prog 110 #[.slice A0 l0.length c0] w fun e w' => e = .returned (.tuple #[.string r1, .int .i64 r2]) ∧ Below w.heap.size w w' := by
 have HR0 := Aside0.mk hr0; have HC0 := Aside0.mk hc0; clear hr0 hc0; have HB := Aside0.mk (Below.refl w.heap.size w); have H : ((token_joined.f l0).bind fun bt160 => (if bt160.2 = true then (token_Text.j0 k l0 bt160.1 (decide ((l0.length : Int) > 20000))) else (token_Text.j0 k l0 bt160.1 true))) = some (r1, r2) := h; clear h; replace H := Option.bind_eq_some_iff.mp H; obtain ⟨⟨t160, t161⟩, A20, H⟩ := H; replace H : (if t161 = true then (token_Text.j0 k l0 t160 (decide ((l0.length : Int) > 20000))) else (token_Text.j0 k l0 t160 true)) = some (r1, r2) := H; have A2 := Aside0.mk A20; clear A20; have HC3 := Aside0.mk H; clear H; go_enter Try.func110, Try.ntmps110
 go_upto_region 2 with (first | ((with_reducible refine zG 112 rfl ?_); refine zg 10 Try.func112 ((token_joined.calls _ _ l0 t160 t161 _ ?side1 ?side2 A2.out).mono ?_); (case side1 => exact zE HR0); (case side2 => exact HC0.out); rintro e w4 ⟨rfl, hb⟩; refine ⟨_, rfl, ?_⟩; replace HB := (zB hb); (try clear hb); (try clear hb2); (try clear hk); (try clear hi)))
 (try simp only [Act.put, List.setIfInBounds_toArray, List.set_cons_zero, List.set_cons_succ])
 go_cut [19] (fun v19 wc => ∃ (kq : Nat) (x19_2 : Bool), v19 = .bool x19_2 ∧ Aside0 (token_Text.j0 kq l0 t160 x19_2 = some (r1, r2)) ∧ Aside0 (kq ≤ k) ∧ Aside0 (Below w.heap.size w wc))
 case first =>
  have H := HC3.out; clear HC3; by_cases c5 : t161 = true
  ·subst c5; rw [if_pos rfl] at H; have H' := Aside0.mk H; clear H; go_wp2
   go_meet
   case rel => exact ⟨_, (decide ((l0.length : Int) > 20000)), zs, H', ⟨by first | omega | exact Nat.le_refl _⟩, ⟨zb⟩⟩
  ·replace c5 := Bool.eq_false_iff.mpr c5; subst c5; replace H := zf H; have H' := Aside0.mk H; clear H; go_wp2
   go_meet
   case rel => exact ⟨_, (true), zs, H', ⟨by first | omega | exact Nat.le_refl _⟩, ⟨zb⟩⟩
 case rest =>
  clear HC3; obtain ⟨kq, x19_2, rfl, HA, HJ2, HB⟩ := hcut
  cases kq with
  | zero => exact absurd HA.out (by simp [token_Text.j0])
  | succ kj2 =>
   have H := HA.out; clear HA; simp only [token_Text.j0] at H; by_cases c6 : x19_2 = true
   ·subst c6; rw [if_pos rfl] at H; simp only [Option.some.injEq, Prod.mk.injEq] at H; obtain ⟨rfl, rfl⟩ := H; go_wp2
    go_ret2
    exact ⟨zr, zb⟩
   ·replace c6 := Bool.eq_false_iff.mpr c6; subst c6; replace H := zf H; replace H := Option.bind_eq_some_iff.mp H; obtain ⟨⟨t162, t163⟩, A70, H⟩ := H; replace H : ((api_Token.f kj2 t162 l0).bind fun t166 => (if t166 = true then (some (t160, 0)) else (some ((⟨#[]⟩ : ByteArray), 4)))) = some (r1, r2) := H; have A7 := Aside0.mk A70; clear A70; replace H := zo H; obtain ⟨t166, A8, H⟩ := H; by_cases c9 : t166 = true
    ·subst c9; rw [if_pos rfl] at H; simp only [Option.some.injEq, Prod.mk.injEq] at H; obtain ⟨rfl, rfl⟩ := H
     go_wp2_with (first | ((with_reducible refine zG 113 rfl ?_); refine zg 22 Try.func113 ((token_Lex.calls kj2 t160 t162 t163 _ A7.out).mono ?_); rintro e w10 ⟨v164, rfl, ho0, hb⟩; refine ⟨_, rfl, ?_⟩; have HO165 := Aside0.mk (Kd.R_lower ho0 (below_size zb)); replace HB := (zB hb); (try clear hb); (try clear hb2); (try clear hk); (try clear hi); (try clear ho0); obtain ⟨Ao11, co11, eo11⟩ := Kd.R_slice HO165.out; subst eo11) | ((with_reducible refine zG 114 rfl ?_); refine zg 27 Try.func114 ((api_Token.calls kj2 _ _ t162 _ _ l0 true _ ?side1 ?side2 ?side3 ?side4 A8.out).mono ?_); (case side1 => exact zE' (Kd.R_reads' HO165.out).2.2); (case side2 => exact (Kd.R_reads' HO165.out).2.1); (case side3 => exact zC HR0); (case side4 => exact HC0.out); rintro e w' ⟨rfl, ⟨nd, rfl⟩⟩; refine ⟨_, rfl, ?_⟩))
     go_ret2
     exact ⟨zr, zb⟩
    ·replace c9 := Bool.eq_false_iff.mpr c9; subst c9; replace H := zf H; simp only [Option.some.injEq, Prod.mk.injEq] at H; obtain ⟨rfl, rfl⟩ := H
     go_wp2_with (first | ((with_reducible refine zG 113 rfl ?_); refine zg 22 Try.func113 ((token_Lex.calls kj2 t160 t162 t163 _ A7.out).mono ?_); rintro e w12 ⟨v164, rfl, ho0, hb⟩; refine ⟨_, rfl, ?_⟩; have HO165 := Aside0.mk (Kd.R_lower ho0 (below_size zb)); replace HB := (zB hb); (try clear hb); (try clear hb2); (try clear hk); (try clear hi); (try clear ho0); obtain ⟨Ao13, co13, eo13⟩ := Kd.R_slice HO165.out; subst eo13) | ((with_reducible refine zG 114 rfl ?_); refine zg 27 Try.func114 ((api_Token.calls kj2 _ _ t162 _ _ l0 false _ ?side1 ?side2 ?side3 ?side4 A8.out).mono ?_); (case side1 => exact zE' (Kd.R_reads' HO165.out).2.2); (case side2 => exact (Kd.R_reads' HO165.out).2.1); (case side3 => exact zC HR0); (case side4 => exact HC0.out); rintro e w' ⟨rfl, ⟨nd, rfl⟩⟩; refine ⟨_, rfl, ?_⟩))
     go_ret2
     exact ⟨zr, zb⟩

/-! ### token_are: function 107 -/
def token_are.f (k : Nat) (l0 : List (S23)) : Option (Bool) := (token_Text.f k l0).bind fun bt167 => (some (bt167.2 == 0))
set_option maxHeartbeats 8000000 in
set_option maxRecDepth 100000 in
theorem token_are.calls (k : Nat) (A0 : Option Addr) (c0 : Nat) (l0 : List (S23)) (r : Bool) (w : World) (hr0 : Kd.C k23 w A0 l0.length l0) (hc0 : l0.length ≤ c0) (h : token_are.f k l0 = some r) :
  Calls Try.prog 107 #[.slice A0 l0.length c0] w fun e w' => e = .returned (.bool r) ∧ Below w.heap.size w w' := by
 have HR0 := Aside0.mk hr0; have HC0 := Aside0.mk hc0; clear hr0 hc0; have HB := Aside0.mk (Below.refl w.heap.size w); have H : ((token_Text.f k l0).bind fun bt167 => (some (bt167.2 == 0))) = some r := h; clear h; replace H := Option.bind_eq_some_iff.mp H; obtain ⟨⟨t167, t168⟩, A20, H⟩ := H; replace H : (some (t168 == 0)) = some r := H; have A2 := Aside0.mk A20; clear A20; obtain rfl := Option.some.inj H; go_enter Try.func107, Try.ntmps107
 go_wp2_with (first | ((with_reducible refine zG 110 rfl ?_); refine zg 7 Try.func110 ((token_Text.calls k _ _ l0 t167 t168 _ ?side1 ?side2 A2.out).mono ?_); (case side1 => exact zE HR0); (case side2 => exact HC0.out); rintro e w3 ⟨rfl, hb⟩; refine ⟨_, rfl, ?_⟩; replace HB := (zB hb); (try clear hb); (try clear hb2); (try clear hk); (try clear hi)))
 go_ret; exact ⟨zr, zb⟩

end Go.Proofs.Ytnafnieocpkkhaa.P

namespace Go.Proofs.Ytnafnieocpkkhaa.P
open Go.RowKit Go.Proofs.YtnafnieocpkkhaaW.PrintWords Go.Proofs.YtnafnieocpkkhaaW.PrintLast Go.Proofs.YtnafnieocpkkhaaW.PrintMore
attribute [local go_sem] max2_int min2_int max_two min_two max_three min_three max_four min_four
set_option linter.unusedVariables false
set_option linter.unusedSimpArgs false

attribute [local go_sem high] eqA23
/-! ### token_IsToken: function 85 -/
def token_IsToken.f (k : Nat) (a0_0 : Int) (a0_1 : ByteArray) : Option (Bool) := if a0_1.toList = ([] : List UInt8) then (some false) else ((token_are.f k (([(⟨a0_0, a0_1⟩ : S23)] : List (S23)))).bind fun t173 => (some t173))
set_option maxHeartbeats 8000000 in
set_option maxRecDepth 100000 in
theorem token_IsToken.calls (k : Nat) (a0_0 : Int) (a0_1 : ByteArray) (r : Bool) (w : World) (h : token_IsToken.f k a0_0 a0_1 = some r) :
  Calls Try.prog 85 #[.agg #[.int .i64 a0_0, .string a0_1]] w fun e w' => e = .returned (.bool r) ∧ Below w.heap.size w w' := by
 have hu23 := Try.underlying23; have HB := Aside0.mk (Below.refl w.heap.size w); have H : (if a0_1.toList = ([] : List UInt8) then (some false) else ((token_are.f k (([(⟨a0_0, a0_1⟩ : S23)] : List (S23)))).bind fun t173 => (some t173))) = some r := h; clear h; by_cases c2 : a0_1.toList = ([] : List UInt8)
 ·rw [if_pos c2] at H; have c2b0 : (a0_1.toList == ([] : List UInt8)) = true := beq_iff_eq.mpr c2; have c2b1 : (a0_1.toList != ([] : List UInt8)) = false := bne_eq_false_iff_eq.mpr c2; clear c2; obtain rfl := Option.some.inj H; go_enter Try.func85, Try.ntmps85
  go_wp2_with (first | ((with_reducible refine zD 1 rfl ?_); (try (refine gate_guard (by rfl) ?_; dsimp only)); refine zx 1 #[.int .i64 a0_0, .string a0_1] 23 ?_; intro gb169 hg w3 hbox hb; have BK169 := Aside0.mk (hbox); have GW169 := (zq hg : Aside0 (w.heap.size ≤ gb169)); have GE169 := GW169; replace HB := (zB hb); clear hb hbox hg; obtain ⟨hcz4_0, hcz4_1⟩ := zc2 BK169; obtain ⟨hfz4_0, hfz4_1⟩ := zz2 BK169))
  go_ret; exact ⟨zr, zb⟩
 ·rw [if_neg c2] at H; have c2b0 : (a0_1.toList == ([] : List UInt8)) = false := beq_eq_false_iff_ne.mpr c2; have c2b1 : (a0_1.toList != ([] : List UInt8)) = true := bne_iff_ne.mpr c2
  obtain ⟨y170, hy170⟩ : ∃ y_ : List (S23), y_ = (([(⟨a0_0, a0_1⟩ : S23)] : List (S23))) := ⟨_, rfl⟩
  replace H : ((token_are.f k y170).bind fun t173 => (some t173)) = some r := by first | (rw [hy170]; with_reducible exact H) | (have H2_ := (Option.bind_some _ _).symm.trans H; rw [hy170]; with_reducible exact H2_) | (have H2_ := (Option.bind_some _ _).symm.trans H; with_reducible exact H2_) | with_reducible exact H | (rw [hy170]; exact H) | exact H
  have Ny170 := Aside0.mk hy170; clear hy170; replace H := zo H; obtain ⟨t173, A5, H⟩ := H; obtain rfl := Option.some.inj H; go_enter Try.func85, Try.ntmps85
  go_wp2_with (first | ((with_reducible refine zD 1 rfl ?_); (try (refine gate_guard (by rfl) ?_; dsimp only)); refine zx 1 #[.int .i64 a0_0, .string a0_1] 23 ?_; intro gb169 hg w6 hbox hb; have BK169 := Aside0.mk (hbox); have GW169 := (zq hg : Aside0 (w.heap.size ≤ gb169)); have GE169 := GW169; replace HB := (zB hb); clear hb hbox hg; obtain ⟨hcz7_0, hcz7_1⟩ := zc2 BK169; obtain ⟨hfz7_0, hfz7_1⟩ := zz2 BK169) | ((with_reducible refine zD 8 rfl ?_); (try (refine gate_guard (by rfl) ?_; dsimp only)); refine Kd.R_lit k23 _ 23 ?hg (N := 8) ?hd (xs := ([(⟨a0_0, a0_1⟩ : S23)] : List (S23))) (inner := [.int .i64 a0_0, .string a0_1]) (ok := fun _ => True) (okp := fun _ => True) ?hr ?hp (fun _ hk => hk) trivial (Below.refl _ _) (Nat.le_refl _) (by simp) ?_; (case hd => rfl); (case hg => rfl); (case hr => first | (go_simp; done) | (go_simp; rfl)); (case hp => exact (Reps.c2 (show Kd.M k23 _ _ _ (⟨a0_0, a0_1⟩ : S23) [.int .i64 a0_0, .string a0_1] from (k23_mkM _ _ _ (⟨a0_0, a0_1⟩ : S23) )) (Reps.none _ _))); intro v171 w8 ho9 hb hg_ hnew_; clear hg_ hnew_; (first | rw [← Ny170.out] at ho9 | (simp only [Int.reduceToNat] at ho9; rw [← Ny170.out] at ho9)); have HO172 := Aside0.mk (Kd.R_lower (Kd.R_newB ho9 (g := gb169) (o := .cells #[.int .i64 a0_0, .string a0_1] 23 (0, 0)) (Cl.blk BK169.out)) (below_size zb)); replace BK169 := (zK BK169 hb); replace HB := (zB hb); clear hb ho9; obtain ⟨Ao10, co10, eo10⟩ := Kd.R_slice HO172.out; subst eo10) | (go_at_call 107; (with_reducible refine (token_are.calls k _ _ y170 t173 _ ?side1 ?side2 A5.out).mono ?_); (case side1 => exact zE' (Kd.R_reads' HO172.out).2.2); (case side2 => exact (Kd.R_reads' HO172.out).2.1); rintro e w11 ⟨rfl, hb⟩; replace HO172 := (zRb HO172 hb); replace BK169 := (zK BK169 hb); replace HB := (zB hb); (try clear hb); (try clear hb2); (try clear hk); (try clear hi)))
  go_ret; exact ⟨zr, zb⟩

/-! ### tree_isEmpty: function 86 -/
def tree_isEmpty.f (a0_0 : Int) (a0_1 : ByteArray) : Option (Bool) := some (a0_0 == 0 && (a0_1.toList == ([] : List UInt8)))
set_option maxHeartbeats 8000000 in
set_option maxRecDepth 100000 in
theorem tree_isEmpty.calls (a0_0 : Int) (a0_1 : ByteArray) (r : Bool) (w : World) (h : tree_isEmpty.f a0_0 a0_1 = some r) :
  Calls Try.prog 86 #[.agg #[.int .i64 a0_0, .string a0_1]] w fun e w' => e = .returned (.bool r) ∧ Below w.heap.size w w' := by
 have hu23 := Try.underlying23; have HB := Aside0.mk (Below.refl w.heap.size w); have H : (some (a0_0 == 0 && (a0_1.toList == ([] : List UInt8)))) = some r := h; clear h; obtain rfl := Option.some.inj H; go_enter Try.func86, Try.ntmps86
 go_wp2_with (first | ((with_reducible refine zD 1 rfl ?_); refine zx 1 #[.int .i64 a0_0, .string a0_1] 23 ?_; intro gb174 hg w2 hbox hb; have BK174 := Aside0.mk (hbox); have GW174 := (zq hg : Aside0 (w.heap.size ≤ gb174)); have GE174 := GW174; replace HB := (zB hb); clear hb hbox hg; obtain ⟨hcz3_0, hcz3_1⟩ := zc2 BK174; obtain ⟨hfz3_0, hfz3_1⟩ := zz2 BK174))
 go_ret; exact ⟨zr, zb⟩

end Go.Proofs.Ytnafnieocpkkhaa.P

namespace Go.Proofs.Ytnafnieocpkkhaa.P
open Go.RowKit Go.Proofs.YtnafnieocpkkhaaW.PrintWords Go.Proofs.YtnafnieocpkkhaaW.PrintLast Go.Proofs.YtnafnieocpkkhaaW.PrintMore
attribute [local go_sem] max2_int min2_int max_two min_two max_three min_three max_four min_four
set_option linter.unusedVariables false
set_option linter.unusedSimpArgs false

/-- All of a list, one after the other, and the count. -/
def tree_IsFormed.all (g : S26 → Int → Option (Bool × Int)) : List (S26) → Int → Option (Bool × Int)
 | [], c => some (true, c)
 | x :: r, c => (g x c).bind fun b => if b.1 = true then tree_IsFormed.all g r b.2 else some (false, b.2)
/-- Formed, of a Node at a depth: so many levels are left. -/
def tree_IsFormed.go (k : Nat) : Nat → S26 → Int → Option (Bool × Int)
 | 0, _, c => some (false, c)
 | m + 1, n, c =>
  if n.f0 = 1 then
   (if wrap64 (c + 1) ≤ 20000 then (if n.f2.length = 0 then (if (n.f1.f1.size : Int) ≤ 20000 then (token_IsToken.f k n.f1.f0 n.f1.f1).bind fun b => some (b, wrap64 (c + 1)) else some (false, wrap64 (c + 1))) else some (false, wrap64 (c + 1))) else some (false, wrap64 (c + 1)))
  else if n.f0 < 2 then some (false, c) else if n.f0 > 28 then some (false, c) else
   (tree_isEmpty.f n.f1.f0 n.f1.f1).bind fun b => if b = true then (if n.f0 = 28 then (if 0 < n.f2.length then some (false, c) else tree_IsFormed.all (tree_IsFormed.go k m) n.f2 c) else tree_IsFormed.all (tree_IsFormed.go k m) n.f2 c) else some (false, c)
def tree_IsFormed.f (k : Nat) (a0_0 : Int) (a0_1 : Int) (a0_2 : ByteArray) (l0_3 : List (S26)) : Option (Bool) := (tree_IsFormed.go k 1001 ⟨a0_0, ⟨a0_1, a0_2⟩, l0_3⟩ 0).bind fun b => some b.1
/-- What formed says of a Node at a depth, and of the count in block g; all that lay below w0 is as it was. -/
def tree_IsFormed.Holds (k : Nat) (w0 : World) (g m : Nat) : Prop := ∀ (n : S26) (A : Option Addr) (cc : Nat) (d c : Int) (r : Bool × Int) (w : World), d + m = 1001 → 0 ≤ d → n.f2.length ≤ cc → Kd.C k26 w0 A n.f2.length n.f2 → Below w0.heap.size w0 w → w.heap[g]? = some (.cells #[.int .i64 c] 3 (0, 0)) → tree_IsFormed.go k m n c = some r →
 Calls Try.prog 65 #[.agg #[.int .i64 n.f0, .int .i64 n.f1.f0, .string n.f1.f1, .slice A n.f2.length cc], .int .i64 d, .pointer (some ⟨g, 0, none⟩)] w fun e w' => e = .returned (.bool r.1) ∧ w'.heap[g]? = some (.cells #[.int .i64 r.2] 3 (0, 0)) ∧ Below w0.heap.size w0 w' ∧ KeepBut w w' g none
set_option maxHeartbeats 8000000 in
set_option maxRecDepth 100000 in
theorem tree_IsFormed.closure_ok (k : Nat) (w0 : World) (g m : Nat) (IH : tree_IsFormed.Holds k w0 g m) (n : S26) (A : Option Addr) (cc : Nat) (d c : Int) (r : Bool × Int) (w : World) (b4 b5 : Nat) (f4 f5 : Nat × Nat)
  (hd : d + (m + 1 : Nat) = 1001) (hd0 : 0 ≤ d) (hcc : n.f2.length ≤ cc) (hC : Kd.C k26 w0 A n.f2.length n.f2) (hB : Below w0.heap.size w0 w) (hG : w.heap[g]? = some (.cells #[.int .i64 c] 3 (0, 0)))
  (h4 : w.heap[b4]? = some (.cells #[.int .i64 d] 3 f4)) (h5 : w.heap[b5]? = some (.cells #[.pointer (some ⟨g, 0, none⟩)] 95 f5)) (h : tree_IsFormed.go k m n c = some r) :
  Calls Try.prog 87 #[.agg #[.int .i64 n.f0, .int .i64 n.f1.f0, .string n.f1.f1, .slice A n.f2.length cc], .pointer (some ⟨b4, 0, none⟩), .pointer (some ⟨b5, 0, none⟩)] w fun e w' => e = .returned (.bool (!r.1)) ∧ w'.heap[g]? = some (.cells #[.int .i64 r.2] 3 (0, 0)) ∧ Below w0.heap.size w0 w' ∧ KeepBut w w' g none := by
 have hu := Try.underlying26
 have c4 : w.cell? ⟨b4, 0, none⟩ = some (.int .i64 d) := (by rw [Lib.cell_of_heap h4]; rfl)
 have c5 : w.cell? ⟨b5, 0, none⟩ = some (.pointer (some ⟨g, 0, none⟩)) := (by rw [Lib.cell_of_heap h5]; rfl)
 have l4 := World.block_lt_of_cell? w _ c4; have l5 := World.block_lt_of_cell? w _ c5; have hA := below_alloc (Below.refl w.heap.size w) (.cells #[.int .i64 n.f0, .int .i64 n.f1.f0, .string n.f1.f1, .slice A n.f2.length cc] 26); have e4 := (hA.cell l4).trans c4; have e5 := (hA.cell l5).trans c5; have HA := Aside0.mk hA; have HI := Aside0.mk (IH n A cc (d + 1) c r (w.alloc (.cells #[.int .i64 n.f0, .int .i64 n.f1.f0, .string n.f1.f1, .slice A n.f2.length cc] 26)) (by omega) (by omega) hcc hC (below_alloc hB _) (blk_alloc hG _) h); clear hA c4 c5 h4 h5 IH hC hB hG h; go_enter Try.func87, Try.ntmps87
 go_wp2_with (go_at_call 65; refine HI.out.mono ?_; rintro e w1 ⟨rfl, h1, h2, h3⟩; have H1 := Aside0.mk h1; have H2 := Aside0.mk h2; have H3 := Aside0.mk h3; clear h1 h2 h3)
 go_ret; exact ⟨rfl, H1.out, H2.out, KeepBut.trans (KeepBut.of_below HA.out g none) H3.out (.inl rfl)⟩
theorem tree_IsFormed.keep_blk {w w' : World} {g b : Nat} {o : Obj} (h : KeepBut w w' g none) (hb : w.heap[b]? = some o) (hne : b ≠ g) : w'.heap[b]? = some o := (h.2 b (blk_lt hb) hne (by simp)).trans hb
set_option maxHeartbeats 8000000 in
set_option maxRecDepth 100000 in
theorem tree_IsFormed.index_ok (k : Nat) (w0 : World) (g m : Nat) (IH : tree_IsFormed.Holds k w0 g m) (l : List (S26)) (A : Option Addr) (cc : Nat) (d c : Int) (r : Bool × Int) (w : World) (b4 b5 : Nat) (f4 f5 : Nat × Nat)
  (hd : d + (m + 1 : Nat) = 1001) (hd0 : 0 ≤ d) (hcc : l.length ≤ cc) (hC : Kd.C k26 w0 A l.length l) (hB : Below w0.heap.size w0 w) (hG : w.heap[g]? = some (.cells #[.int .i64 c] 3 (0, 0)))
  (h4 : w.heap[b4]? = some (.cells #[.int .i64 d] 3 f4)) (h5 : w.heap[b5]? = some (.cells #[.pointer (some ⟨g, 0, none⟩)] 95 f5)) (n4 : b4 ≠ g) (n5 : b5 ≠ g) (h : tree_IsFormed.all (tree_IsFormed.go k m) l c = some r) :
  Calls Try.prog 89 #[.slice A l.length cc, .func (.func 87) #[] #[.pointer (some ⟨b4, 0, none⟩), .pointer (some ⟨b5, 0, none⟩)]] w fun e w' => ∃ v : Int, e = .returned (.int .i64 v) ∧ decide (0 ≤ v) = !r.1 ∧ w'.heap[g]? = some (.cells #[.int .i64 r.2] 3 (0, 0)) ∧ Below w0.heap.size w0 w' ∧ KeepBut w w' g none := by
 have hu := Try.underlying26; have HIH := Aside0.mk IH; have HC := Aside0.mk hC; have H4 := Aside0.mk h4; have H5 := Aside0.mk h5; have N4 := Aside0.mk n4; have N5 := Aside0.mk n5; have HD := Aside0.mk (And.intro hd hd0); have HH := Aside0.mk h; have HB := Aside0.mk hB; have HG := Aside0.mk hG; have hmax : l.length ≤ 9223372036854775807 := hC.2.1; clear IH hC h4 h5 n4 n5 hd hd0 h hB hG; go_enter Try.func89, Try.ntmps89; go_wp2_with fail
 go_loopg [8] l.length (fun kq v8 w' => ∃ (i : Nat) (ci : Int), v8 = .int .i64 (i : Int) ∧ Aside0 (i + kq = l.length) ∧ Aside0 (tree_IsFormed.all (tree_IsFormed.go k m) (l.drop i) ci = some r) ∧ Aside0 (w'.heap[g]? = some (.cells #[.int .i64 ci] 3 (0, 0))) ∧ Aside0 (Below w0.heap.size w0 w') ∧ Aside0 (KeepBut w w' g none))
 case atStart => exact ⟨0, c, rfl, ⟨by omega⟩, HH, HG, HB, ⟨KeepBut.refl _ _ _⟩⟩
 case round =>
  clear HH HG HB; obtain ⟨i, ci, rfl, HK, HH, HG, HB, HKB⟩ := hrel; by_cases hlt : i < l.length
  ·have hd1 : decide ((i : Int) < (l.length : Int)) = true := decide_eq_true (by omega); have H := HH.out; rw [List.drop_eq_getElem_cons hlt] at H; simp only [tree_IsFormed.all] at H; obtain ⟨b, hb, H⟩ := Option.bind_eq_some_iff.mp H
   have hrd : rd_T26 l (i : Int) = l[i] := (by simp [rd_T26, hlt])
   obtain ⟨ad, A3, c3, e, hx0, hx1, hx2, hx3, hl3, hC3⟩ := at_T26 HC.out (i : Int) (by omega) (by omega); rw [hrd] at hx0 hx1 hx2 hx3 hl3 hC3; rw [Int.toNat_natCast] at hx0 hx1 hx2 hx3
   cases e
   replace hx0 := (HB.out.cell (World.block_lt_of_cell? w0 _ hx0)).trans hx0; replace hx1 := (HB.out.cell (World.block_lt_of_cell? w0 _ hx1)).trans hx1; replace hx2 := (HB.out.cell (World.block_lt_of_cell? w0 _ hx2)).trans hx2; replace hx3 := (HB.out.cell (World.block_lt_of_cell? w0 _ hx3)).trans hx3; clear hrd HH; generalize l[i] = x at *; have hcall := tree_IsFormed.closure_ok k w0 g m HIH.out x A3 c3 d ci b wr b4 b5 f4 f5 HD.out.1 HD.out.2 hl3 hC3 HB.out HG.out (tree_IsFormed.keep_blk HKB.out H4.out N4.out) (tree_IsFormed.keep_blk HKB.out H5.out N5.out) hb; have HCall := Aside0.mk hcall; obtain ⟨b1, b2⟩ := b; clear hcall hb hl3 hC3
   cases b1 with
   | true =>
    rw [if_pos rfl] at H; have HH2 := Aside0.mk H; clear H
    cases gk with
    | zero => exact absurd hlt (by have := HK.out; omega)
    | succ kq' =>
    go_wp2_with (go_at_call 87; refine HCall.out.mono ?_; rintro e w1 ⟨rfl, h1, h2, h3⟩; have H1 := Aside0.mk h1; have H2 := Aside0.mk h2; have H3 := Aside0.mk (KeepBut.trans HKB.out h3 (.inl rfl)); clear h1 h2 h3)
    go_roundg kq'
    case measure => omega
    case rel => exact ⟨i + 1, b2, by go_num, ⟨by have := HK.out; omega⟩, HH2, H1, H2, H3⟩
   | false =>
    rw [if_neg (show ¬ (false = true) by decide)] at H; simp only [Option.some.injEq] at H; subst H
    go_wp2_with (go_at_call 87; refine HCall.out.mono ?_; rintro e w1 ⟨rfl, h1, h2, h3⟩; have H1 := Aside0.mk h1; have H2 := Aside0.mk h2; have H3 := Aside0.mk (KeepBut.trans HKB.out h3 (.inl rfl)); clear h1 h2 h3)
    go_ret; exact ⟨_, rfl, by simp, H1.out, H2.out, H3.out⟩
  ·have hd1 : decide ((i : Int) < (l.length : Int)) = false := decide_eq_false (by omega); have H := HH.out; rw [List.drop_of_length_le (by have := HK.out; omega)] at H; simp only [tree_IsFormed.all, Option.some.injEq] at H; subst H; go_wp2_with fail; go_ret; exact ⟨_, rfl, by simp, HG.out, HB.out, HKB.out⟩
set_option maxHeartbeats 8000000 in
set_option maxRecDepth 100000 in
theorem tree_IsFormed.contains_ok (k : Nat) (w0 : World) (g m : Nat) (IH : tree_IsFormed.Holds k w0 g m) (l : List (S26)) (A : Option Addr) (cc : Nat) (d c : Int) (r : Bool × Int) (w : World) (b4 b5 : Nat) (f4 f5 : Nat × Nat)
  (hd : d + (m + 1 : Nat) = 1001) (hd0 : 0 ≤ d) (hcc : l.length ≤ cc) (hC : Kd.C k26 w0 A l.length l) (hB : Below w0.heap.size w0 w) (hG : w.heap[g]? = some (.cells #[.int .i64 c] 3 (0, 0)))
  (h4 : w.heap[b4]? = some (.cells #[.int .i64 d] 3 f4)) (h5 : w.heap[b5]? = some (.cells #[.pointer (some ⟨g, 0, none⟩)] 95 f5)) (n4 : b4 ≠ g) (n5 : b5 ≠ g) (h : tree_IsFormed.all (tree_IsFormed.go k m) l c = some r) :
  Calls Try.prog 71 #[.slice A l.length cc, .func (.func 87) #[] #[.pointer (some ⟨b4, 0, none⟩), .pointer (some ⟨b5, 0, none⟩)]] w fun e w' => e = .returned (.bool (!r.1)) ∧ w'.heap[g]? = some (.cells #[.int .i64 r.2] 3 (0, 0)) ∧ Below w0.heap.size w0 w' ∧ KeepBut w w' g none := by
 have HI := Aside0.mk (tree_IsFormed.index_ok k w0 g m IH l A cc d c r w b4 b5 f4 f5 hd hd0 hcc hC hB hG h4 h5 n4 n5 h); clear IH hd hd0 hC hB hG h4 h5 n4 n5 h; go_enter Try.func71, Try.ntmps71
 go_wp2_with (go_at_call 89; refine HI.out.mono ?_; rintro e w1 ⟨v, rfl, hv, h1, h2, h3⟩; have H1 := Aside0.mk h1; have H2 := Aside0.mk h2; have H3 := Aside0.mk h3; have HV := Aside0.mk hv; clear h1 h2 h3 hv)
 go_ret; exact ⟨by rw [← HV.out]; rfl, H1.out, H2.out, H3.out⟩
set_option maxHeartbeats 8000000 in
set_option maxRecDepth 100000 in
theorem tree_IsFormed.formed_ok (k : Nat) (w0 : World) (g : Nat) (hg : w0.heap.size ≤ g) : ∀ m, tree_IsFormed.Holds k w0 g m := by
 have hu := Try.underlying26; have hu2 := Try.underlying23; intro m
 induction m with
 | zero =>
  intro n A cc d c r w hd hd0 hcc hC hB hG h; simp only [tree_IsFormed.go, Option.some.injEq] at h; subst h; have hd1 : decide ((1000 : Int) < d) = true := decide_eq_true (by omega); have HB := Aside0.mk (below_alloc (below_alloc (below_alloc hB (.cells #[.int .i64 n.f0, .int .i64 n.f1.f0, .string n.f1.f1, .slice A n.f2.length cc] 26)) (.cells #[.int .i64 d] 3)) (.cells #[.pointer (some ⟨g, 0, none⟩)] 95)); have HK := Aside0.mk (KeepBut.of_below (below_alloc (below_alloc (below_alloc (Below.refl w.heap.size w) (.cells #[.int .i64 n.f0, .int .i64 n.f1.f0, .string n.f1.f1, .slice A n.f2.length cc] 26)) (.cells #[.int .i64 d] 3)) (.cells #[.pointer (some ⟨g, 0, none⟩)] 95)) g none); have HG := Aside0.mk (blk_alloc (blk_alloc (blk_alloc hG (.cells #[.int .i64 n.f0, .int .i64 n.f1.f0, .string n.f1.f1, .slice A n.f2.length cc] 26)) (.cells #[.int .i64 d] 3)) (.cells #[.pointer (some ⟨g, 0, none⟩)] 95)); clear hd hB hG hC; go_enter Try.func65, Try.ntmps65; go_wp2; go_ret; exact ⟨rfl, HG.out, HB.out, HK.out⟩
 | succ m ih =>
  intro n A cc d c r w hd hd0 hcc hC hB hG h; have hd1 : decide ((1000 : Int) < d) = false := decide_eq_false (by omega); have HB := Aside0.mk (below_alloc (below_alloc (below_alloc hB (.cells #[.int .i64 n.f0, .int .i64 n.f1.f0, .string n.f1.f1, .slice A n.f2.length cc] 26)) (.cells #[.int .i64 d] 3)) (.cells #[.pointer (some ⟨g, 0, none⟩)] 95)); have HK := Aside0.mk (KeepBut.of_below (below_alloc (below_alloc (below_alloc (Below.refl w.heap.size w) (.cells #[.int .i64 n.f0, .int .i64 n.f1.f0, .string n.f1.f1, .slice A n.f2.length cc] 26)) (.cells #[.int .i64 d] 3)) (.cells #[.pointer (some ⟨g, 0, none⟩)] 95)) g none); have HG := Aside0.mk (blk_alloc (blk_alloc (blk_alloc hG (.cells #[.int .i64 n.f0, .int .i64 n.f1.f0, .string n.f1.f1, .slice A n.f2.length cc] 26)) (.cells #[.int .i64 d] 3)) (.cells #[.pointer (some ⟨g, 0, none⟩)] 95)); have hgl := blk_lt hG; have HD := Aside0.mk (show d + ((m + 1 : Nat) : Int) = 1001 from hd); have HC := Aside0.mk hC; have IH := Aside0.mk ih; clear hd hB hG hC ih; simp only [tree_IsFormed.go] at h; by_cases c1 : n.f0 = 1
  ·rw [if_pos c1] at h; have c1b : (n.f0 == 1) = true := beq_iff_eq.mpr c1
   have eG : (((w.alloc (.cells #[.int .i64 n.f0, .int .i64 n.f1.f0, .string n.f1.f1, .slice A n.f2.length cc] 26)).alloc (.cells #[.int .i64 d] 3)).alloc (.cells #[.pointer (some ⟨g, 0, none⟩)] 95)).cell? ⟨g, 0, none⟩ = some (.int .i64 c) := (by rw [Lib.cell_of_heap HG.out]; rfl)
   have dG : (((w.alloc (.cells #[.int .i64 n.f0, .int .i64 n.f1.f0, .string n.f1.f1, .slice A n.f2.length cc] 26)).alloc (.cells #[.int .i64 d] 3)).alloc (.cells #[.pointer (some ⟨g, 0, none⟩)] 95)).frozen? ⟨g, 0, none⟩ = false := Lib.frozen_of_heap HG.out 0; have HG2 := Aside0.mk (blk_put (cs' := #[.int .i64 (wrap64 (c + 1))]) HG.out 0 (.int .i64 (wrap64 (c + 1))) rfl); have HB2 := Aside0.mk (HB.out.setCell (p := ⟨g, 0, none⟩) hg (.int .i64 (wrap64 (c + 1)))); have HK2 := Aside0.mk (KeepBut.set_ HK.out 0 (.int .i64 (wrap64 (c + 1)))); have HC0 := Aside0.mk c1; clear c1; by_cases c2 : wrap64 (c + 1) ≤ 20000
   ·rw [if_pos c2] at h; have c2b : decide (wrap64 (c + 1) ≤ 20000) = true := decide_eq_true c2; clear c2; by_cases c3 : n.f2.length = 0
    ·rw [if_pos c3] at h; have c3b : ((n.f2.length : Int) == 0) = true := beq_iff_eq.mpr (by omega); clear c3; by_cases c4 : (n.f1.f1.size : Int) ≤ 20000
     ·rw [if_pos c4] at h; have c4b : decide ((n.f1.f1.size : Int) ≤ 20000) = true := decide_eq_true c4; obtain ⟨b, hb, h⟩ := Option.bind_eq_some_iff.mp h; injection h with h; subst h; have HT := Aside0.mk hb; clear hb c4; go_enter Try.func65, Try.ntmps65
      go_wp2_with (go_at_call 85; refine (token_IsToken.calls k n.f1.f0 n.f1.f1 b _ HT.out).mono ?_; rintro e w1 ⟨rfl, hb⟩; have HG3 := Aside0.mk (blk_below HG2.out hb); have HB3 := Aside0.mk (HB2.out.trans (hb.mono HB2.out.size)); have HK3 := Aside0.mk (KeepBut.trans HK2.out (KeepBut.of_below hb g none) (.inl rfl)); clear hb)
      go_ret; exact ⟨rfl, HG3.out, HB3.out, HK3.out⟩
     ·rw [if_neg c4] at h; have c4b : decide ((n.f1.f1.size : Int) ≤ 20000) = false := decide_eq_false c4; clear c4; injection h with h; subst h; go_enter Try.func65, Try.ntmps65; go_wp2; go_ret; exact ⟨rfl, HG2.out, HB2.out, HK2.out⟩
    ·rw [if_neg c3] at h; have c3b : ((n.f2.length : Int) == 0) = false := beq_eq_false_iff_ne.mpr (by omega); clear c3; injection h with h; subst h; go_enter Try.func65, Try.ntmps65; go_wp2; go_ret; exact ⟨rfl, HG2.out, HB2.out, HK2.out⟩
   ·rw [if_neg c2] at h; injection h with h; subst h; have c2b : decide (wrap64 (c + 1) ≤ 20000) = false := decide_eq_false c2; clear c2; go_enter Try.func65, Try.ntmps65; go_wp2; go_ret; exact ⟨rfl, HG2.out, HB2.out, HK2.out⟩
  ·rw [if_neg c1] at h; have c1b : (n.f0 == 1) = false := beq_eq_false_iff_ne.mpr c1; clear c1; by_cases c2 : n.f0 < 2
   ·rw [if_pos c2] at h; injection h with h; subst h; have c2b : decide (n.f0 < 2) = true := decide_eq_true c2; clear c2; go_enter Try.func65, Try.ntmps65; go_wp2; go_ret; exact ⟨rfl, HG.out, HB.out, HK.out⟩
   ·rw [if_neg c2] at h; have c2b : decide (n.f0 < 2) = false := decide_eq_false c2; clear c2; by_cases c3 : n.f0 > 28
    ·rw [if_pos c3] at h; injection h with h; subst h; have c3b : decide (28 < n.f0) = true := decide_eq_true c3; clear c3; go_enter Try.func65, Try.ntmps65; go_wp2; go_ret; exact ⟨rfl, HG.out, HB.out, HK.out⟩
    ·rw [if_neg c3] at h; have c3b : decide (28 < n.f0) = false := decide_eq_false c3; clear c3; obtain ⟨b, hb, h⟩ := Option.bind_eq_some_iff.mp h; have HE := Aside0.mk hb; have H0 := Aside0.mk (show (((w.alloc (.cells #[.int .i64 n.f0, .int .i64 n.f1.f0, .string n.f1.f1, .slice A n.f2.length cc] 26)).alloc (.cells #[.int .i64 d] 3)).alloc (.cells #[.pointer (some ⟨g, 0, none⟩)] 95)).heap[w.heap.size]? = some (.cells #[.int .i64 n.f0, .int .i64 n.f1.f0, .string n.f1.f1, .slice A n.f2.length cc] 26 (0, 0)) from blk_alloc (blk_alloc (blk_new _ _) _) _); have H4 := Aside0.mk (show (((w.alloc (.cells #[.int .i64 n.f0, .int .i64 n.f1.f0, .string n.f1.f1, .slice A n.f2.length cc] 26)).alloc (.cells #[.int .i64 d] 3)).alloc (.cells #[.pointer (some ⟨g, 0, none⟩)] 95)).heap[w.heap.size + 1]? = some (.cells #[.int .i64 d] 3 (0, 0)) from blk_alloc (by have := blk_new (w.alloc (.cells #[.int .i64 n.f0, .int .i64 n.f1.f0, .string n.f1.f1, .slice A n.f2.length cc] 26)) (.cells #[.int .i64 d] 3); simpa using this) _); have H5 := Aside0.mk (show (((w.alloc (.cells #[.int .i64 n.f0, .int .i64 n.f1.f0, .string n.f1.f1, .slice A n.f2.length cc] 26)).alloc (.cells #[.int .i64 d] 3)).alloc (.cells #[.pointer (some ⟨g, 0, none⟩)] 95)).heap[w.heap.size + 2]? = some (.cells #[.pointer (some ⟨g, 0, none⟩)] 95 (0, 0)) from by have := blk_new ((w.alloc (.cells #[.int .i64 n.f0, .int .i64 n.f1.f0, .string n.f1.f1, .slice A n.f2.length cc] 26)).alloc (.cells #[.int .i64 d] 3)) (.cells #[.pointer (some ⟨g, 0, none⟩)] 95); simpa using this); clear hb
     cases b with
     | false =>
      rw [if_neg (by decide)] at h; injection h with h; subst h; go_enter Try.func65, Try.ntmps65
      go_wp2_with (go_at_call 86; refine (tree_isEmpty.calls n.f1.f0 n.f1.f1 _ _ HE.out).mono ?_; rintro e w1 ⟨rfl, hb⟩; have HG3 := Aside0.mk (blk_below HG.out hb); have HB3 := Aside0.mk (HB.out.trans (hb.mono HB.out.size)); have HK3 := Aside0.mk (KeepBut.trans HK.out (KeepBut.of_below hb g none) (.inl rfl)); have H43 := Aside0.mk (blk_below H4.out hb); have H53 := Aside0.mk (blk_below H5.out hb); have z4 : w1.cell? ⟨w.heap.size, 0, none⟩ = some (.int .i64 n.f0) := Lib.cell_of_heap (blk_below H0.out hb) 0; have z5 : w1.cell? ⟨w.heap.size, 3, none⟩ = some (.slice A n.f2.length cc) := Lib.cell_of_heap (blk_below H0.out hb) 3; clear hb)
      go_ret; exact ⟨rfl, HG3.out, HB3.out, HK3.out⟩
     | true =>
      rw [if_pos rfl] at h; by_cases c4 : n.f0 = 28
      ·rw [if_pos c4] at h; have c4b : (n.f0 == 28) = true := beq_iff_eq.mpr c4; clear c4; by_cases c5 : 0 < n.f2.length
       ·rw [if_pos c5] at h; injection h with h; subst h; have c5b : decide (0 < n.f2.length) = true := decide_eq_true c5; clear c5; go_enter Try.func65, Try.ntmps65
        go_wp2_with (go_at_call 86; refine (tree_isEmpty.calls n.f1.f0 n.f1.f1 _ _ HE.out).mono ?_; rintro e w1 ⟨rfl, hb⟩; have HG3 := Aside0.mk (blk_below HG.out hb); have HB3 := Aside0.mk (HB.out.trans (hb.mono HB.out.size)); have HK3 := Aside0.mk (KeepBut.trans HK.out (KeepBut.of_below hb g none) (.inl rfl)); have H43 := Aside0.mk (blk_below H4.out hb); have H53 := Aside0.mk (blk_below H5.out hb); have z4 : w1.cell? ⟨w.heap.size, 0, none⟩ = some (.int .i64 n.f0) := Lib.cell_of_heap (blk_below H0.out hb) 0; have z5 : w1.cell? ⟨w.heap.size, 3, none⟩ = some (.slice A n.f2.length cc) := Lib.cell_of_heap (blk_below H0.out hb) 3; clear hb)
        go_ret; exact ⟨rfl, HG3.out, HB3.out, HK3.out⟩
       ·rw [if_neg c5] at h; have HL := Aside0.mk h; have c5b : decide (0 < n.f2.length) = false := decide_eq_false c5; clear c5 h; go_enter Try.func65, Try.ntmps65
        go_wp2_with (first | (go_at_call 86; refine (tree_isEmpty.calls n.f1.f0 n.f1.f1 _ _ HE.out).mono ?_; rintro e w1 ⟨rfl, hb⟩; have HG3 := Aside0.mk (blk_below HG.out hb); have HB3 := Aside0.mk (HB.out.trans (hb.mono HB.out.size)); have HK3 := Aside0.mk (KeepBut.trans HK.out (KeepBut.of_below hb g none) (.inl rfl)); have H43 := Aside0.mk (blk_below H4.out hb); have H53 := Aside0.mk (blk_below H5.out hb); have z4 : w1.cell? ⟨w.heap.size, 0, none⟩ = some (.int .i64 n.f0) := Lib.cell_of_heap (blk_below H0.out hb) 0; have z5 : w1.cell? ⟨w.heap.size, 3, none⟩ = some (.slice A n.f2.length cc) := Lib.cell_of_heap (blk_below H0.out hb) 3; clear hb) | (go_at_call 71; refine (tree_IsFormed.contains_ok k w0 g m IH.out n.f2 A cc d c r w1 (w.heap.size + 1) (w.heap.size + 2) (0, 0) (0, 0) HD.out hd0 hcc HC.out HB3.out HG3.out H43.out H53.out (by omega) (by omega) HL.out).mono ?_; rintro e w2 ⟨rfl, h1, h2, h3⟩; have HG4 := Aside0.mk h1; have HB4 := Aside0.mk h2; have HK4 := Aside0.mk (KeepBut.trans HK3.out h3 (.inl rfl)); clear h1 h2 h3))
        go_ret; exact ⟨by simp, HG4.out, HB4.out, HK4.out⟩
      ·rw [if_neg c4] at h; have c4b : (n.f0 == 28) = false := beq_eq_false_iff_ne.mpr c4; have HL := Aside0.mk h; clear c4 h; go_enter Try.func65, Try.ntmps65
       go_wp2_with (first | (go_at_call 86; refine (tree_isEmpty.calls n.f1.f0 n.f1.f1 _ _ HE.out).mono ?_; rintro e w1 ⟨rfl, hb⟩; have HG3 := Aside0.mk (blk_below HG.out hb); have HB3 := Aside0.mk (HB.out.trans (hb.mono HB.out.size)); have HK3 := Aside0.mk (KeepBut.trans HK.out (KeepBut.of_below hb g none) (.inl rfl)); have H43 := Aside0.mk (blk_below H4.out hb); have H53 := Aside0.mk (blk_below H5.out hb); have z4 : w1.cell? ⟨w.heap.size, 0, none⟩ = some (.int .i64 n.f0) := Lib.cell_of_heap (blk_below H0.out hb) 0; have z5 : w1.cell? ⟨w.heap.size, 3, none⟩ = some (.slice A n.f2.length cc) := Lib.cell_of_heap (blk_below H0.out hb) 3; clear hb) | (go_at_call 71; refine (tree_IsFormed.contains_ok k w0 g m IH.out n.f2 A cc d c r w1 (w.heap.size + 1) (w.heap.size + 2) (0, 0) (0, 0) HD.out hd0 hcc HC.out HB3.out HG3.out H43.out H53.out (by omega) (by omega) HL.out).mono ?_; rintro e w2 ⟨rfl, h1, h2, h3⟩; have HG4 := Aside0.mk h1; have HB4 := Aside0.mk h2; have HK4 := Aside0.mk (KeepBut.trans HK3.out h3 (.inl rfl)); clear h1 h2 h3))
       go_ret; exact ⟨by simp, HG4.out, HB4.out, HK4.out⟩
set_option maxHeartbeats 8000000 in
set_option maxRecDepth 100000 in
theorem tree_IsFormed.calls (k : Nat) (a0_0 : Int) (a0_1 : Int) (a0_2 : ByteArray) (A0_3 : Option Addr) (c0_3 : Nat) (l0_3 : List (S26)) (r : Bool) (w : World) (hr0_3 : Kd.C k26 w A0_3 l0_3.length l0_3) (hc0_3 : l0_3.length ≤ c0_3) (h : tree_IsFormed.f k a0_0 a0_1 a0_2 l0_3 = some r) :
  Calls Try.prog 30 #[.agg #[.int .i64 a0_0, .int .i64 a0_1, .string a0_2, .slice A0_3 l0_3.length c0_3]] w fun e w' => e = .returned (.bool r) ∧ Below w.heap.size w w' := by
 have hu := Try.underlying26; obtain ⟨b, hb, h⟩ := Option.bind_eq_some_iff.mp h; injection h with h; subst h; have hB := below_alloc (below_alloc (Below.refl w.heap.size w) (.cells #[.int .i64 a0_0, .int .i64 a0_1, .string a0_2, .slice A0_3 l0_3.length c0_3] 26)) (.cells #[.int .i64 0] 3)
 have hG : ((w.alloc (.cells #[.int .i64 a0_0, .int .i64 a0_1, .string a0_2, .slice A0_3 l0_3.length c0_3] 26)).alloc (.cells #[.int .i64 0] 3)).heap[w.heap.size + 1]? = some (.cells #[.int .i64 0] 3 (0, 0)) := by
  have := blk_new (w.alloc (.cells #[.int .i64 a0_0, .int .i64 a0_1, .string a0_2, .slice A0_3 l0_3.length c0_3] 26)) (.cells #[.int .i64 0] 3)
  simpa using this
 have HF := Aside0.mk (tree_IsFormed.formed_ok k w (w.heap.size + 1) (by omega) 1001 ⟨a0_0, ⟨a0_1, a0_2⟩, l0_3⟩ A0_3 c0_3 0 0 b _ (by omega) (by omega) hc0_3 hr0_3 hB hG hb); clear hb hB hG hr0_3; go_enter Try.func30, Try.ntmps30
 go_wp2_with (go_at_call 65; refine HF.out.mono ?_; rintro e w1 ⟨rfl, h1, h2, h3⟩; have HB := Aside0.mk h2; clear h1 h2 h3)
 go_ret; exact ⟨rfl, HB.out⟩

end Go.Proofs.Ytnafnieocpkkhaa.P

namespace Go.Proofs.Ytnafnieocpkkhaa.P
open Go.RowKit Go.Proofs.YtnafnieocpkkhaaW.PrintWords Go.Proofs.YtnafnieocpkkhaaW.PrintLast Go.Proofs.YtnafnieocpkkhaaW.PrintMore
attribute [local go_sem] max2_int min2_int max_two min_two max_three min_three max_four min_four
set_option linter.unusedVariables false
set_option linter.unusedSimpArgs false

attribute [local go_sem high] eqA23
/-! ### marginaliaref05_Same: function 37 -/
mutual
def marginaliaref05_Same.j0 : Nat → Bool → Int → Int → ByteArray → List (S26) → Int → Int → ByteArray → List (S26) → Option (Bool)
 | 0, _, _, _, _, _, _, _, _, _ => none
 | k + 1, x26, x349000, x349001, x349002, x349003, x350000, x350001, x350002, x350003 => if x26 = true then (some false) else (marginaliaref05_Same.l0 k 0 x349000 x349001 x349002 x349003 x350000 x350001 x350002 x350003)
def marginaliaref05_Same.l0 : Nat → Int → Int → Int → ByteArray → List (S26) → Int → Int → ByteArray → List (S26) → Option (Bool)
 | 0, _, _, _, _, _, _, _, _, _ => none
 | k + 1, x5, x349000, x349001, x349002, x349003, x350000, x350001, x350002, x350003 => if x5 < (x349003.length : Int) then (if 0 ≤ x5 then (if x5 < (x350003.length : Int) then ((marginaliaref05_Same.f k ((rd_T26 x349003 x5).f0) ((rd_T26 x349003 x5).f1.f0) ((rd_T26 x349003 x5).f1.f1) ((rd_T26 x349003 x5).f2) ((rd_T26 x350003 x5).f0) ((rd_T26 x350003 x5).f1.f0) ((rd_T26 x350003 x5).f1.f1) ((rd_T26 x350003 x5).f2)).bind fun t352 => (if t352 = true then (marginaliaref05_Same.l0 k (wrap64 (x5 + 1)) x349000 x349001 x349002 x349003 x350000 x350001 x350002 x350003) else (some false))) else (none)) else (none)) else (some true)
def marginaliaref05_Same.f : Nat → Int → Int → ByteArray → List (S26) → Int → Int → ByteArray → List (S26) → Option (Bool)
 | 0, _, _, _, _, _, _, _, _ => none
 | k + 1, a0_0, a0_1, a0_2, l0_3, a1_0, a1_1, a1_2, l1_3 => if a0_0 = a1_0 then (if (!(a0_1 == a1_1) || (!(a0_2.toList == a1_2.toList))) = true then (marginaliaref05_Same.j0 k true a0_0 a0_1 a0_2 l0_3 a1_0 a1_1 a1_2 l1_3) else (marginaliaref05_Same.j0 k ((l0_3.length : Int) != (l1_3.length : Int)) a0_0 a0_1 a0_2 l0_3 a1_0 a1_1 a1_2 l1_3)) else (marginaliaref05_Same.j0 k true a0_0 a0_1 a0_2 l0_3 a1_0 a1_1 a1_2 l1_3)
end
end Go.Proofs.Ytnafnieocpkkhaa.P

set_option linter.unusedVariables false
set_option linter.unusedSimpArgs false
namespace Go.Proofs.Ytnafnieocpkkhaa.P
open Go Go.RowKit Go.Proofs.Ytnafnieocpkkhaa Go.Proofs.YtnafnieocpkkhaaW.PrintWords Go.Proofs.YtnafnieocpkkhaaW.PrintLast Go.Proofs.YtnafnieocpkkhaaW.PrintMore
open Go.Proofs.Ytnafnieocpkkhaa.Nums (MapOK num lk)
/-- One of them is not formed. -/
def tree_Shared.bad (k : Nat) : List (S26) → Option Bool
 | [] => some false
 | x :: r => (tree_IsFormed.f k x.f0 x.f1.f0 x.f1.f1 x.f2).bind fun b => if b = true then tree_Shared.bad k r else some true
def tree_Shared.all (g : S26 → List ByteArray → Option (Nat × List ByteArray)) : List (S26) → List ByteArray → Option (List ByteArray)
 | [], ks => some ks
 | x :: r, ks => (g x ks).bind fun o => tree_Shared.all g r o.2
def tree_Shared.f (k : Nat) (l0 : List (S26)) : Option (Int × Int) :=
 if 12 < l0.length then some (0, 3) else (tree_Shared.bad k l0).bind fun b => if b = true then some (0, 4) else (tree_Shared.all (tree_Shared.go k) l0 []).bind fun ks => if ks.length ≤ 1000000000 then some ((ks.length : Int), 0) else none
/-- Is one of the Nodes the same as n? -/
def marginaliaref05_Shared.has (s : Nat) (n : S26) : List (S26) → Option Bool
 | [] => some false
 | x :: r => (marginaliaref05_Same.f s x.f0 x.f1.f0 x.f1.f1 x.f2 n.f0 n.f1.f0 n.f1.f1 n.f2).bind fun b => if b = true then some true else marginaliaref05_Shared.has s n r
def marginaliaref05_Shared.kids (g : S26 → List (S26) → Option (List (S26))) : List (S26) → List (S26) → Option (List (S26))
 | [], l => some l
 | x :: r, l => (g x l).bind fun u => marginaliaref05_Shared.kids g r u
def marginaliaref05_Shared.go : Nat → S26 → List (S26) → Option (List (S26))
 | 0, _, _ => none
 | m + 1, n, l => (marginaliaref05_Shared.kids (marginaliaref05_Shared.go m) n.f2 l).bind fun u => (marginaliaref05_Shared.has m n u).bind fun b => if b = true then some u else if u.length ≤ 1000000000 then some (u ++ [n]) else none
end Go.Proofs.Ytnafnieocpkkhaa.P

namespace Go.Proofs.Ytnafnieocpkkhaa.P
open Go.RowKit Go.Proofs.YtnafnieocpkkhaaW.PrintWords Go.Proofs.YtnafnieocpkkhaaW.PrintLast Go.Proofs.YtnafnieocpkkhaaW.PrintMore
attribute [local go_sem] max2_int min2_int max_two min_two max_three min_three max_four min_four
set_option linter.unusedVariables false
set_option linter.unusedSimpArgs false

/-! ### tree_width: function 55 -/
mutual
def tree_width.l0 : Nat → Int → List (S26) → Int → Int → Option (Int)
 | 0, _, _, _, _ => none
 | k + 1, x3, x11, x12, x13 => if x13 < x12 then (if 0 ≤ x13 then (if x13 < (x11.length : Int) then ((tree_width.f k ((rd_T26 x11 x13).f0) ((rd_T26 x11 x13).f1.f0) ((rd_T26 x11 x13).f1.f1) ((rd_T26 x11 x13).f2)).bind fun t178 => (tree_width.l0 k (wrap64 (x3 + t178)) x11 x12 (wrap64 (x13 + 1)))) else (none)) else (none)) else (some x3)
def tree_width.f : Nat → Int → Int → ByteArray → List (S26) → Option (Int)
 | 0, _, _, _, _ => none
 | k + 1, a0_0, a0_1, a0_2, l0_3 => tree_width.l0 k (a0_2.size : Int) l0_3 (l0_3.length : Int) 0
end
set_option maxHeartbeats 8000000 in
set_option maxRecDepth 100000 in
theorem tree_width.calls (k : Nat) : ∀ (a0_0 : Int) (a0_1 : Int) (a0_2 : ByteArray) (A0_3 : Option Addr) (c0_3 : Nat) (l0_3 : List (S26)) (r : Int) (w : World) (hr0_3 : Kd.C k26 w A0_3 l0_3.length l0_3) (hc0_3 : l0_3.length ≤ c0_3) (h : tree_width.f k a0_0 a0_1 a0_2 l0_3 = some r),
  Calls Try.prog 55 #[.agg #[.int .i64 a0_0, .int .i64 a0_1, .string a0_2, .slice A0_3 l0_3.length c0_3]] w fun e w' => e = .returned (.int .i64 r) ∧ Below w.heap.size w w' := by
 induction k using Nat.strongRecOn with
 | _ k ih =>
 intro a0_0 a0_1 a0_2 A0_3 c0_3 l0_3 r w hr0_3 hc0_3 h
 cases k with
 | zero => exact absurd h (by simp [tree_width.f])
 | succ k =>
 simp only [tree_width.f] at h; have hu26 := Try.underlying26; have HR0_3 := Aside0.mk hr0_3; have HC0_3 := Aside0.mk hc0_3; clear hr0_3 hc0_3; have HB := Aside0.mk (Below.refl w.heap.size w); have H : (tree_width.l0 k (a0_2.size : Int) l0_3 (l0_3.length : Int) 0) = some r := h; clear h; have H' := Aside0.mk H; clear H; go_enter Try.func55, Try.ntmps55
 go_wp2_with (first | ((with_reducible refine zD 1 rfl ?_); refine zx 1 #[.int .i64 a0_0, .int .i64 a0_1, .string a0_2, .slice A0_3 l0_3.length c0_3] 26 ?_; intro gb175 hg w2 hbox hb; have BK175 := Aside0.mk (hbox); have GW175 := (zq hg : Aside0 (w.heap.size ≤ gb175)); have GE175 := GW175; replace HB := (zB hb); clear hb hbox hg; obtain ⟨hcz3_0, hcz3_1, hcz3_2, hcz3_3⟩ := zc4 BK175; obtain ⟨hfz3_0, hfz3_1, hfz3_2, hfz3_3⟩ := zz4 BK175))
 go_loopg [3, 13] k (fun kq v3 v13 w' => ∃ (x3_1 : Int) (x13_1 : Int), v3 = .int .i64 x3_1 ∧ v13 = .int .i64 x13_1 ∧ Aside0 (tree_width.l0 kq x3_1 l0_3 (l0_3.length : Int) x13_1 = some r) ∧ Aside0 (kq ≤ k) ∧ Aside0 (w'.heap[gb175]? = some (.cells #[.int .i64 a0_0, .int .i64 a0_1, .string a0_2, (.slice A0_3 l0_3.length c0_3)] 26 (0, 0))) ∧ Aside0 (Below w.heap.size w w'))
 case atStart => exact ⟨((a0_2.size : Int)), (0), zs, zs, H', ⟨Nat.le_refl _⟩, (zA BK175), ⟨zb⟩⟩
 case round =>
  clear H'; obtain ⟨x3_1, x13_1, rfl, rfl, HA, HK1, BK175, HB⟩ := hrel
  cases gk with
  | zero => exact absurd HA.out (by simp [tree_width.l0])
  | succ k1 =>
   have H := HA.out; clear HA; simp only [tree_width.l0] at H; by_cases c4 : x13_1 < (l0_3.length : Int)
   ·rw [if_pos c4] at H; have c4b0 := decide_eq_true c4; clear c4; replace H := zi1 H; obtain ⟨c5b0, H⟩ := H; replace H := zi1 H; obtain ⟨c6b0, H⟩ := H; replace H := zo H; obtain ⟨t178, A7, H⟩ := H; have H' := Aside0.mk H; clear H; have p176 : 0 ≤ (x13_1 : Int) := zt; have q176 : x13_1 < (l0_3.length : Int) := zt; obtain ⟨ad176, A176_3, c176_3, e176, hx176_0, hx176_1, hx176_2, hx176_3, hl176_3, hi176_3⟩ := at_T26 HR0_3.out x13_1 p176 q176
    cases e176
    replace hx176_0 := zh HB hx176_0; replace hx176_1 := zh HB hx176_1; replace hx176_2 := zh HB hx176_2; replace hx176_3 := zh HB hx176_3; have HR176_3 := Aside0.mk hi176_3; have HC176_3 := Aside0.mk hl176_3; clear hi176_3 hl176_3; replace p176 := eq_true p176; replace q176 := eq_true q176
    go_wp2_with (first | ((with_reducible refine zD 5 rfl ?_); refine zx 5 #[.int .i64 0, .int .i64 0, .string (⟨#[]⟩ : ByteArray), .slice none 0 0] 26 ?_; intro gb177 hg w8 hbox hb; have BK177 := Aside0.mk (hbox); have GW177 := (zq hg : Aside0 (w.heap.size ≤ gb177)); have GE177 := GW177; replace HB := (zB hb); have NB175_177 := (zl hg BK175 : Aside0 (gb175 ≠ gb177)); have NB177_175 := (zl' hg BK175 : Aside0 (gb177 ≠ gb175)); replace BK175 := (zK BK175 hb); clear hb hbox hg; have hnb9 := NB177_175.out; have hnc9 := NB175_177.out; obtain ⟨hcz10_0, hcz10_1, hcz10_2, hcz10_3⟩ := zc4 BK177; obtain ⟨hfz10_0, hfz10_1, hfz10_2, hfz10_3⟩ := zz4 BK177) | ((with_reducible refine zG 55 rfl ?_); refine zg 19 Try.func55 ((ih k1 (by have := HK1.out; omega) ((rd_T26 l0_3 x13_1).f0) ((rd_T26 l0_3 x13_1).f1.f0) ((rd_T26 l0_3 x13_1).f1.f1) _ _ ((rd_T26 l0_3 x13_1).f2) t178 _ ?side1 ?side2 A7.out).mono ?_); (case side1 => exact Kd.C_below HR176_3.out zb); (case side2 => exact HC176_3.out); rintro e w11 ⟨rfl, hb⟩; refine ⟨_, rfl, ?_⟩; replace BK175 := (zw2 gb175 #[.int .i64 a0_0, .int .i64 a0_1, .string a0_2, .slice (some ad176) l0_3.length c0_3] 26 hb); replace BK177 := (zw2 gb177 #[.int .i64 ((rd_T26 l0_3 x13_1).f0), .int .i64 ((rd_T26 l0_3 x13_1).f1.f0), .string ((rd_T26 l0_3 x13_1).f1.f1), .slice A176_3 ((rd_T26 l0_3 x13_1).f2).length c176_3] 26 hb); replace HB := (zB hb); (try clear hb); (try clear hb2); (try clear hk); (try clear hi)))
    go_roundg k1
    case measure => have := HK1.out; omega
    case rel => exact ⟨(wrap64 (x3_1 + t178)), (wrap64 (x13_1 + 1)), zs, zs, H', zk, (zA BK175), ⟨zb⟩⟩
   ·rw [if_neg c4] at H; have c4b0 := decide_eq_false c4; clear c4; obtain rfl := Option.some.inj H; go_wp2; go_ret; exact ⟨zr, zb⟩

end Go.Proofs.Ytnafnieocpkkhaa.P

