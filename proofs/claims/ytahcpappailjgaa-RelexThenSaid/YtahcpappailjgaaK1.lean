/- What the claim's row needs of the seat's texts, part 1: put together by a program of this session (declarations that no text of the claim names are left out). -/
import Derived.Lib.Strings
import Derived.ProofKit
import Derived.OpenShut
import Derived.ShutString
import Derived.ChangeOld
import Derived.Below
import Derived.SizedLaws
import Derived.DataReads
import Derived.Deep.Slices
import Derived.Lib.Builder
import Derived.KernelRfl
import Derived.Shelf.Strings.Builder1
import Derived.Shelf.Small.Strs
import Derived.Shelf.Small.Wraps
import Derived.Shelf.Strings.BuilderF
import Derived.Shelf.Strings.BuilderK
import Derived.Shelf.Strings.Search1
import Derived.Shelf.Strings.LastIndex
import Derived.Shelf.Strings.Prefix
import Derived.Shelf.Strings.BuilderCap
import Derived.Ground.Names2Prog
import Derived.Shelf.Slices.SearchI
import Derived.Shelf.Slices.Empties
import Derived.Test.YtahcpappailjgaaProg
import Derived.Lib.FrozenHead2
import Derived.Lib.OthersKept
import Derived.BigQuiet
import Derived.Deep.Draws
import Derived.Deep.AppendLies
import Derived.Maps.AppendAt
import Derived.OwnWalk
import Derived.Laws.BytesArg
import Derived.Laws.MakeOwn
import Derived.Laws.OwnMore
import Derived.Deep.OwnRows
import Derived.Tactics
import Derived.Lib.ConvBytes
import Derived.Laws.Slices
import Derived.WalkKit
import Derived.RowKit3
import Derived.Deep.LoopGhost
import Derived.Deep.QuietTactic
import Derived.WideLaws
import Derived.Deep.DeepCutAuto
import Derived.Deep.CutBlock
import Derived.Deep.RegionHeld3
import Derived.Laws.Rows
import Derived.Lib.AppendStr
import Derived.ArgAppend
import Derived.Laws.IdiomCopy
import Derived.OrdersHeld
import Derived.Laws.BitsLemmas
import Derived.RowKit
import Derived.Outline
import Derived.Deep.RegionLawGrows
import Derived.Lib.SliceRun
import Derived.Lib.AppendZerosOnto
import Derived.Test.YtahcpappailjgaaK0
namespace Go.Proofs.Ytahcpappailjgaa.Ut
theorem ite_some {α : Type} {c : Prop} [Decidable c] {x : Option α} {r : α} (h : (if c then x else none) = some r) : c ∧ x = some r := by
 by_cases hc : c
 ·rw [if_pos hc] at h; exact ⟨hc, h⟩
 ·rw [if_neg hc] at h; cases h
theorem size_data (s : ByteArray) : s.data.toList.length = s.size := by
 rw [Array.length_toList]; rfl
end Go.Proofs.Ytahcpappailjgaa.Ut

set_option linter.unusedVariables false
namespace Go.Proofs.Ytahcpappailjgaa.OpG
open Go.RowKit Go.Proofs.YtahcpappailjgaaW.PrintWords
variable {H : Type} {enc : TypeId × Value → H} {P : Program} {W : World}
def OpF (enc : TypeId × Value → H) (P : Program) (W : World) (n : Nat) (T : TypeId) {α : Type} (d : Kd α) (ok : α → Prop) : Prop :=
 ∀ cs x, DataW.trod enc P W 0 (fun _ => true) true n T cs = some x → ∃ a, d.K W a cs ∧ ok a
def okI (n : Int) : Prop := -9223372036854775808 ≤ n ∧ n ≤ 9223372036854775807
def okS (s : ByteArray) : Prop := s.size ≤ 9223372036854775807
theorem OpF.int {n : Nat} {T : TypeId} (ht : P.underlying T = some (.int .i64)) : OpF enc P W n T (Kd.int .i64) okI := by
 intro cs x h; obtain ⟨a, rfl, _, hw⟩ := DataW.trod_int ht h; exact ⟨a, rfl, bounds_i64 hw⟩
theorem OpF.u16 {n : Nat} {T : TypeId} (ht : P.underlying T = some (.int .u16)) : OpF enc P W n T (Kd.int .u16) (fun a => 0 ≤ a ∧ a ≤ 65535) := by
 intro cs x h; obtain ⟨a, rfl, _, hw⟩ := DataW.trod_int ht h; exact ⟨a, rfl, bounds_u16 hw⟩
theorem OpF.bool {n : Nat} {T : TypeId} (ht : P.underlying T = some .bool) : OpF enc P W n T Kd.bool (fun _ => True) := by
 intro cs x h; obtain ⟨a, rfl, _⟩ := DataW.trod_bool ht h; exact ⟨a, rfl, trivial⟩
theorem OpF.string {n : Nat} {T : TypeId} (ht : P.underlying T = some .string) : OpF enc P W n T Kd.string okS := by
 intro cs x h; obtain ⟨a, rfl, _, hw⟩ := DataW.trod_string ht h; exact ⟨a, rfl, hw⟩
theorem choose_list {α : Type} {Q : Nat → α → Prop} : ∀ (n : Nat), (∀ i, i < n → ∃ a, Q i a) → ∃ l : List α, l.length = n ∧ ∀ i a, l[i]? = some a → Q i a
 | 0, _ => ⟨[], rfl, fun i a h => by simp at h⟩
 | n + 1, h => by
  obtain ⟨l, hl, hq⟩ := choose_list n (fun i hi => h i (by omega)); obtain ⟨a, ha⟩ := h n (by omega); refine ⟨l ++ [a], by simp [hl], fun i b hb => ?_⟩
  rcases Nat.lt_or_ge i n with hi | hi
  ·rw [List.getElem?_append_left (by omega)] at hb; exact hq i b hb
  ·have hi' : i = n := by
    have := (List.getElem?_eq_some_iff.1 hb).1
    simp [hl] at this
    omega
   subst hi'; rw [List.getElem?_append_right (by omega)] at hb
   simp [hl] at hb
   subst hb; exact ha
theorem OpF.slice {n : Nat} {T e : TypeId} {α : Type} {d : Kd α} {ok : α → Prop} (ht : P.underlying T = some (.slice e)) (hs : P.cellsOf e = d.sz) (h : ∀ m, m < n → OpF enc P W m e d ok) :
  OpF enc P W n T (Kd.slice e d) (fun l => l.length ≤ 9223372036854775807 ∧ ∀ a ∈ l, ok a) := by
 intro cs x hx
 rcases DataW.trod_slice ht hx with ⟨rfl, _⟩ | ⟨a, len, cap, elems, rest, m, rfl, rfl, _, _, hl, hm, hlen, hel, _⟩
 ·exact ⟨[], ⟨none, 0, rfl, Nat.le_refl _, rfl, by simp, fun h0 => absurd h0 (Nat.lt_irrefl 0)⟩, by simp, fun a ha => by cases ha⟩
 ·have hq : ∀ i, i < len → ∃ b : α, ∃ c, c.length = d.sz ∧ d.K W b c ∧ (∀ j u, c[j]? = some u → W.cell? (a.add (i * d.sz + j)) = some u) ∧ ok b := by
   intro i hi; have h1 := hel i hi; rw [List.getElem?_eq_getElem (by omega)] at h1; obtain ⟨c, hc, hd⟩ := Option.bind_eq_some_iff.1 h1; obtain ⟨_, hcl, hat⟩ := World.cells?_some hc; obtain ⟨b, hb, hok⟩ := h m (Nat.lt_succ_self m) _ _ hd; refine ⟨b, c, by rw [hcl, hs], hb, fun j u hu => ?_, hok⟩
   have hj : j < P.cellsOf e := by
    have := (List.getElem?_eq_some_iff.1 hu).1
    omega
   have := hat j hj; rw [hu, hs] at this; rw [← this, Go.Deep.add_add]
  obtain ⟨l, hll, hlq⟩ := choose_list len hq; unfold maxLen at hm; refine ⟨l, ⟨some a, cap, by rw [hll], by omega, rfl, by omega, fun _ => ⟨a, rfl, fun j p hj => ?_⟩⟩, by omega, fun b hb => ?_⟩
  ·obtain ⟨c, h1, h2, h3, _⟩ := hlq j p hj; exact ⟨c, h1, h2, h3⟩
  ·obtain ⟨i, hi⟩ := List.mem_iff_getElem?.1 hb; obtain ⟨_, _, _, _, h4⟩ := hlq i b hi; exact h4
theorem slice_val {α : Type} {d : Kd α} {e len cap : Nat} {a : Option Addr} {l : List α} (h : (Kd.slice e d).K W l (Value.slice a len cap).cells.toList) : len = l.length ∧ l.length ≤ cap ∧ d.C W a l.length l := by
 obtain ⟨A', c', e1, h1, h2⟩ := h
 simp [Value.cells] at e1
 obtain ⟨rfl, rfl, rfl⟩ := e1; exact ⟨rfl, h1, h2⟩
end Go.Proofs.Ytahcpappailjgaa.OpG

set_option linter.unusedVariables false
namespace Go.Proofs.Ytahcpappailjgaa.Cl
open Go Go.RowKit
variable {W : World} {g : Nat} {t : TypeId} {fz : Nat × Nat} {a b c d : Value}
/-- What lay in a world lies in the other one. -/
class Grew (w w' : World) : Prop where
 keep : ∀ k, k < w.heap.size → k < w'.heap.size ∧ w'.heap[k]? = w.heap[k]?
instance (w : World) : Grew w w := ⟨fun k hk => ⟨hk, rfl⟩⟩
instance (w w' : World) (o : Obj) [h : Grew w w'] : Grew w (w'.alloc o) := ⟨fun k hk => ⟨by have := (h.keep k hk).1; simp; omega, (Below.heap_alloc w' o k (h.keep k hk).1).trans (h.keep k hk).2⟩⟩
instance (w w' : World) [h : Grew w w'] : Grew w w'.drew := ⟨h.keep⟩
instance (w w' : World) (n : Nat) [h : Grew w w'] : Grew w (w'.drewN n) := ⟨h.keep⟩
theorem blk {w w' : World} {g : Nat} {o : Obj} (h : w.heap[g]? = some o) [hg : Grew w w'] : w'.heap[g]? = some o := (hg.keep g (Array.getElem?_eq_some_iff.1 h).1).2.trans h
theorem one (h : W.heap[g]? = some (.cells #[a] t fz)) : W.cell? ⟨g, 0, none⟩ = some a := Lib.cell_of_heap h 0
end Go.Proofs.Ytahcpappailjgaa.Cl

set_option linter.unusedVariables false
namespace Go.Proofs.Ytahcpappailjgaa
open Go Go.RowKit Go.Proofs.YtahcpappailjgaaW.PrintWords Go.Proofs.YtahcpappailjgaaW.PrintLast Go.Proofs.YtahcpappailjgaaW.PrintMore
theorem zb {n : Nat} {w W : World} (h : Below n w W := by repeat (first | (with_reducible first | exact HB.out | apply below_alloc | apply pw_below_drewN | apply below_drew1 | refine below_set ?_ (Aside0.out (by assumption))) | exact HB.out)) : Below n w W := h
theorem zr {α : Type} {a b : α} (h : a = b := by first | rfl | (simp [errW_none, errW_some] <;> rfl) | (simp [*, errW_none, errW_some] <;> rfl)) : a = b := h
theorem zs {α : Type} {a b : α} (h : a = b := by first | rfl | (simp; done) | (simp [*]; done)) : a = b := h
theorem zk {a b : Nat} (h : a ≤ b := by have := HK1.out; first | omega | exact Nat.le_refl _) : Aside0 (a ≤ b) := ⟨h⟩
theorem zt {p : Prop} [Decidable p] (h : decide p = true := by first | (with_reducible assumption) | assumption) : p := of_decide_eq_true h
theorem zT {p : Prop} [Decidable p] (h : decide p = true := by first | (with_reducible assumption) | assumption) : p = True := eq_true (of_decide_eq_true h)
theorem zo {α β : Type} {o : Option α} {f : α → Option β} {r : β} (h : o.bind f = some r) : ∃ t, Aside0 (o = some t) ∧ f t = some r := by
 obtain ⟨t, h1, h2⟩ := Option.bind_eq_some_iff.mp h; exact ⟨t, ⟨h1⟩, h2⟩
theorem zf {α : Type} {a b r : α} (h : (if false = true then a else b) = r) : b = r := by simpa using h
theorem zi {α : Type} {p : Prop} [Decidable p] {a : Option α} {r : α} (h : (if p then a else none) = some r) : p ∧ a = some r := by
 by_cases c : p
 ·rw [if_pos c] at h; exact ⟨c, h⟩
 ·rw [if_neg c] at h; simp at h
theorem zq {g : Nat} {w W : World} (hg : g = W.heap.size) (h : Below w.heap.size w W := by repeat (first | (with_reducible first | exact HB.out | apply below_alloc | apply pw_below_drewN | apply below_drew1 | refine below_set ?_ (Aside0.out (by assumption))) | exact HB.out)) : Aside0 (w.heap.size ≤ g) := ⟨by rw [hg]; exact below_size h⟩
theorem zB {w W w1 : World} (hb : Below W.heap.size W w1) (h : Below w.heap.size w W := by repeat (first | (with_reducible first | exact HB.out | apply below_alloc | apply pw_below_drewN | apply below_drew1 | refine below_set ?_ (Aside0.out (by assumption))) | exact HB.out)) : Aside0 (Below w.heap.size w w1) := ⟨below_step h hb⟩
theorem zA {w w' : World} {g : Nat} {o : Obj} (h : Aside0 (w.heap[g]? = some o)) [hg : Cl.Grew w w'] : Aside0 (w'.heap[g]? = some o) := ⟨Cl.blk h.out⟩
theorem zK {w w' w1 : World} {g : Nat} {o : Obj} (h : Aside0 (w.heap[g]? = some o)) (hb : Below w'.heap.size w' w1) [hg : Cl.Grew w w'] : Aside0 (w1.heap[g]? = some o) := ⟨blk_below (Cl.blk h.out) hb⟩
theorem zn {w w' : World} {g : Nat} {o : Obj} (hd : Drawn0 w w') (h : Aside0 (w.heap[g]? = some o)) : Aside0 (w'.heap[g]? = some o) := by
 obtain ⟨n, rfl⟩ := hd; exact h
theorem zm {n : Nat} {w w1 w' : World} (hd : Drawn0 w w') (h : Aside0 (Below n w1 w)) : Aside0 (Below n w1 w') := by
 obtain ⟨n, rfl⟩ := hd; exact ⟨pw_below_drewN h.out _⟩
section
variable {P : Program} {ops : Array Oper} {rest : List Oper} {o : Oper} {a : Act} {Q : Exit → Act → World → Prop} {w : World}
theorem zg (N : Nat) {f : FuncId} {fn : Func} (hf : P.funcs[f]? = some fn) {args : Array Value} {xs : Array Operand} {ts : Array TypeId}
  (h : Calls P f args w fun e w' => ∃ v, e = .returned v ∧ wpList P ops Q rest (a.put (some N) v) w')
  (hd : o.dst = some N := by rfl) (hg : o.guard = none := by rfl) (hname : (fn.name == "runtime.NumGoroutine") = false := by kernel_rfl) (hb : fn.body.isSome = true := by rfl)
  (hop : o.op = .call { callee := .value (.func f), args := xs, argTypes := ts } := by rfl) (hargs : xs.map a.eval = args := by (try simp only [List.map_toArray, List.map_cons, List.map_nil]); first | done | rfl | (simp only [List.length_drop, List.length_take]; rfl)) : wpList P ops Q (o :: rest) a w :=
 goesL_ (some N) hd hg hf hname hb args hop hargs h
theorem zx (N : Tmp) (cs : Array Value) (t : TypeId)
  (h : ∀ g, g = w.heap.size → ∀ w1, w1.heap[g]? = some (.cells cs t (0, 0)) → Below w.heap.size w w1 → wpList P ops Q rest (a.put o.dst (.pointer (some ⟨g, 0, none⟩))) w1)
  (hd : o.dst = some N := by rfl) (hgd : o.guard = none := by rfl)
  (hrun : (execOp a.eval o).run P w = .ok (.value (.pointer (some ⟨w.heap.size, 0, none⟩))) (w.alloc (.cells cs t (0, 0))) := by first | (go_simp; done) | (go_simp; rfl)) : wpList P ops Q (o :: rest) a w :=
 box_event hgd hd hrun h
end
/-- What lay in a world is as it was in the other one. -/
class Ext (w w' : World) : Prop where
 out : Below w.heap.size w w'
instance (w : World) : Ext w w := ⟨Below.refl _ _⟩
instance (w w' : World) (o : Obj) [h : Ext w w'] : Ext w (w'.alloc o) := ⟨below_alloc h.out o⟩
instance (w w' : World) [h : Ext w w'] : Ext w w'.drew := ⟨below_drew h.out⟩
instance (w w' : World) (n : Nat) [h : Ext w w'] : Ext w (w'.drewN n) := ⟨pw_below_drewN h.out n⟩
theorem zl {W w : World} {g g' : Nat} {o : Obj} (hg : g = W.heap.size) (h : Aside0 (w.heap[g']? = some o)) [Cl.Grew w W] : Aside0 (g' ≠ g) := ⟨by rw [hg]; exact Nat.ne_of_lt (blk_lt (Cl.blk h.out : W.heap[g']? = some o))⟩
theorem zl' {W w : World} {g g' : Nat} {o : Obj} (hg : g = W.heap.size) (h : Aside0 (w.heap[g']? = some o)) [Cl.Grew w W] : Aside0 (g ≠ g') := ⟨fun e => (zl hg h).out e.symm⟩
theorem zV {α : Type} {d : Kd α} {e base : Nat} {w w' : World} {ok : Nat → Prop} {v : Value} {xs : List α} (h : Aside0 (Kd.V d e w base ok v xs)) [hx : Ext w w'] : Kd.V d e w' base ok v xs := Kd.V_below h.out hx.out
theorem zE {α : Type} {k : Kd α} {w w' : World} {A : Option Addr} {n : Nat} {xs : List α} (h : Aside0 (Kd.C k w A n xs)) [hx : Ext w w'] : Kd.C k w' A n xs := Kd.C_below h.out hx.out
theorem zE' {α : Type} {k : Kd α} {w w' : World} {A : Option Addr} {n : Nat} {xs : List α} (h : Kd.C k w A n xs) [hx : Ext w w'] : Kd.C k w' A n xs := Kd.C_below h hx.out
theorem zC {α : Type} {k : Kd α} {w W : World} {A : Option Addr} {n : Nat} {xs : List α} (h : Aside0 (Kd.C k w A n xs)) (hb : Below w.heap.size w W := by repeat (first | (with_reducible first | exact HB.out | apply below_alloc | apply pw_below_drewN | apply below_drew1 | refine below_set ?_ (Aside0.out (by assumption))) | exact HB.out)) : Kd.C k W A n xs := Kd.C_below h.out hb
theorem zw {w : World} {g : Nat} {o : Obj} (h : w.heap[g]? = some o := by
  (repeat (first | (with_reducible exact Aside0.out (by assumption)) | (with_reducible first | refine blk_drewN ?_ _ | refine blk_drew ?_ | refine blk_alloc ?_ _ | apply blk_put | (apply blk_far; rotate_left; exact Aside0.out (by assumption); rotate_right))))
  all_goals rfl) : w.heap[g]? = some o := h
section
variable {w : World} {g : Nat} {t : TypeId} {a b c d e f x y : Value}
theorem zc2 (h : Aside0 (w.heap[g]? = some (.cells #[a, b] t (0, 0)))) : w.cell? ⟨g, 0, none⟩ = some a ∧ w.cell? ⟨g, 1, none⟩ = some b := ⟨(blk_cell h.out 0).trans rfl, (blk_cell h.out 1).trans rfl⟩
theorem zc3 (h : Aside0 (w.heap[g]? = some (.cells #[a, b, c] t (0, 0)))) : w.cell? ⟨g, 0, none⟩ = some a ∧ w.cell? ⟨g, 1, none⟩ = some b ∧ w.cell? ⟨g, 2, none⟩ = some c := ⟨(blk_cell h.out 0).trans rfl, (blk_cell h.out 1).trans rfl, (blk_cell h.out 2).trans rfl⟩
theorem zz2 (h : Aside0 (w.heap[g]? = some (.cells #[a, b] t (0, 0)))) : w.frozen? ⟨g, 0, none⟩ = false ∧ w.frozen? ⟨g, 1, none⟩ = false := ⟨blk_frozen h.out 0, blk_frozen h.out 1⟩
theorem zz3 (h : Aside0 (w.heap[g]? = some (.cells #[a, b, c] t (0, 0)))) : w.frozen? ⟨g, 0, none⟩ = false ∧ w.frozen? ⟨g, 1, none⟩ = false ∧ w.frozen? ⟨g, 2, none⟩ = false := ⟨blk_frozen h.out 0, blk_frozen h.out 1, blk_frozen h.out 2⟩
end
section
variable {P : Program} {ops : Array Oper} {o : Oper} {Q : Exit → Act → World → Prop} {md : Region.Mode} {S : World → Prop} {ds : List Nat} {T : Bool × List (List Nat × List Nat)}
theorem zp (i N : Nat) {fuel : Nat} {oi : Oper} {v : Value} {l l' : Array Bool} {a a' : Act} {w : World} (hT : Aside0 (rtab md ops = T))
  (h : wpAnyLast P md ops Q S ds fuel l' a' w)
  (hi : ops[i]? = some oi := by rfl) (hN : oi.dst = some N := by rfl) (hl : l.setIfInBounds i true = l' := by simp only [List.setIfInBounds_toArray, List.set_cons_zero, List.set_cons_succ]; rfl)
  (hc : anyT T l.toList l'.toList i = true := by kernel_rfl) (hw : Region.wanted oi (yielded ops a.tmps) = true := by rfl)
  (hy : ∀ w' : World, (execOp a.eval oi).run P w' = .ok (.value v) w' := by intro w'; go_simp; with_reducible rfl)
  (ha : a.put (some N) v = a' := by simp only [Act.put, List.setIfInBounds_toArray, List.set_cons_zero, List.set_cons_succ, i64_w, i32_w]; rfl)
  (hQ : ∀ c a w, Q (.panic c) (a.put oi.dst v) w → Q (.panic c) a w := by exact fun _ _ _ h => h) : wpAnyLast P md ops Q S ds (fuel + 1) l a w :=
 pure_ l' hi hN (any_of hT.out hc) hQ (Or.inl ⟨hw, hy⟩) ha h
theorem zu (i N : Nat) {fuel : Nat} {oi : Oper} {l l' : Array Bool} {a a' : Act} {w : World} (hT : Aside0 (rtab md ops = T))
  (h : wpAnyLast P md ops Q S ds fuel l' a' w)
  (hi : ops[i]? = some oi := by rfl) (hN : oi.dst = some N := by rfl) (hl : l.setIfInBounds i true = l' := by simp only [List.setIfInBounds_toArray, List.set_cons_zero, List.set_cons_succ]; rfl)
  (hc : anyT T l.toList l'.toList i = true := by kernel_rfl) (hw : Region.wanted oi (yielded ops a.tmps) = false := by rfl)
  (ha : a.put (some N) undef = a' := by simp only [Act.put, List.setIfInBounds_toArray, List.set_cons_zero, List.set_cons_succ, i64_w, i32_w]; rfl)
  (hQ : ∀ c a w, Q (.panic c) (a.put oi.dst undef) w → Q (.panic c) a w := by exact fun _ _ _ h => h) : wpAnyLast P md ops Q S ds (fuel + 1) l a w :=
 pure_ l' hi hN (any_of hT.out hc) hQ (Or.inr ⟨hw, rfl⟩) ha h
theorem zy (i N : Nat) {B : List Nat} {fuel : Nat} {oi : Oper} {v : Value} {l l' : Array Bool} {a a' : Act} {w : World} (hT : Aside0 (rtab md ops = T)) (hB : Aside0 (waitsOk T.2 B = true)) (hS : S w)
  (h : wpAnyLast P md ops Q S ds fuel l' a' w)
  (hi : ops[i]? = some oi := by rfl) (hN : oi.dst = some N := by rfl) (hl : l.setIfInBounds i true = l' := by simp only [List.setIfInBounds_toArray, List.set_cons_zero, List.set_cons_succ]; rfl)
  (hc : takeW T B ds l.toList l'.toList i = true := by kernel_rfl) (hw : Region.wanted oi (yielded ops a.tmps) = true := by rfl)
  (hy : ∀ w', S w' → (execOp a.eval oi).run P w' = .ok (.value v) w' := by intro w' hs; (repeat (have h1 := And.left hs; replace hs := And.right hs)); go_simp; with_reducible rfl)
  (ha : a.put (some N) v = a' := by simp only [Act.put, List.setIfInBounds_toArray, List.set_cons_zero, List.set_cons_succ, i64_w, i32_w]; rfl)
  (hQ : ∀ c a w, Q (.panic c) (a.put oi.dst v) w → Q (.panic c) a w := by exact fun _ _ _ h => h) : wpAnyLast P md ops Q S ds (fuel + 1) l a w :=
 take_ l' hi hN (take_ofW hT.out hB.out hc) hQ (Or.inl ⟨hw, hy⟩) hS ha h
variable {rest : List Oper} {a : Act} {W : World}
theorem zG (f : FuncId) {xs : Array Operand} {ts : Array TypeId} (_ho : o.op = .call { callee := .value (.func f), args := xs, argTypes := ts }) (h : wpList P ops Q (o :: rest) a W) : wpList P ops Q (o :: rest) a W := h
theorem zD (N : Tmp) (_hN : o.dst = some N) (h : wpList P ops Q (o :: rest) a W) : wpList P ops Q (o :: rest) a W := h
end
theorem zR {α : Type} {d : Kd α} {e base : Nat} {w w' : World} {ok : Nat → Prop} {v : Value} {xs : List α} (h : Aside0 (Kd.R d e w base ok v xs)) [hx : Ext w w'] : Kd.R d e w' base ok v xs := Kd.R_below h.out hx.out
theorem zRb {α : Type} {d : Kd α} {e base : Nat} {w w' w1 : World} {ok : Nat → Prop} {v : Value} {xs : List α} (h : Aside0 (Kd.R d e w base ok v xs)) (hb : Below w'.heap.size w' w1) [hx : Ext w w'] : Aside0 (Kd.R d e w1 base ok v xs) := ⟨Kd.R_below (Kd.R_below h.out hx.out) hb⟩
theorem zVb {α : Type} {d : Kd α} {e base : Nat} {w w' w1 : World} {ok : Nat → Prop} {v : Value} {xs : List α} (h : Aside0 (Kd.V d e w base ok v xs)) (hb : Below w'.heap.size w' w1) [hx : Ext w w'] : Aside0 (Kd.V d e w1 base ok v xs) := ⟨Kd.V_below (Kd.V_below h.out hx.out) hb⟩
section
variable {P : Program} {ops : Array Oper} {Q : Exit → Act → World → Prop} {md : Region.Mode} {S : World → Prop} {ds : List Nat}
end
theorem zX {w w' : World} (h : Drawn0 w w' := by repeat (first | exact Drawn0.refl _ | apply Drawn0.step)) : Drawn0 w w' := h
theorem blk_grown' {w w' w1 : World} {g : Nat} {o : Obj} {row : Option Nat} (h : Aside0 (w.heap[g]? = some o)) (hg : w'.grownBy w1 row) (hne : some g ≠ row) [hx : Cl.Grew w w'] : Aside0 (w1.heap[g]? = some o) := ⟨blk_grown (Cl.blk h.out) hg hne⟩
theorem zi1 {α : Type} {p : Prop} [Decidable p] {a : Option α} {r : α} (h : (if p then a else none) = some r) : decide p = true ∧ a = some r := ⟨decide_eq_true (zi h).1, (zi h).2⟩
theorem zi2 {α : Type} {p : Prop} [Decidable p] {a : Option α} {r : α} (h : (if p then a else none) = some r) : (p = True) ∧ decide p = true ∧ a = some r := ⟨eq_true (zi h).1, decide_eq_true (zi h).1, (zi h).2⟩
theorem zh {w W : World} {a : Addr} {v : Value} (hb : Aside0 (Below w.heap.size w W)) (h : w.cell? a = some v) : W.cell? a = some v := (hb.out.cell (World.block_lt_of_cell? w _ h)).trans h
end Go.Proofs.Ytahcpappailjgaa

namespace Go.Proofs
open Go.Shelf
def Try.lays170_ren : Go.Shelf.Ren := ⟨fun | 170 => 73 | n => n, fun | 70 => 77 | 3 => 3 | 0 => 0 | 72 => 79 | 37 => 70 | 5 => 5 | n => n, fun | n => n⟩
theorem Try.lays170 : Go.Proofs.Lays.n170 Try.prog Try.lays170_ren := {
 mixed := by kernel_rfl
 f170 := Try.func73.trans (congrArg some (by kernel_rfl))
 t0 := Try.underlying0
 a0 := Try.isAgg0
 z0 := Try.sizeOf0
 v0 := Try.zeroValue0
 t3 := Try.underlying3
 a3 := Try.isAgg3
 z3 := Try.sizeOf3
 v3 := Try.zeroValue3
 t37 := Try.underlying70
 a37 := Try.isAgg70
 z37 := Try.sizeOf70
 v37 := Try.zeroValue70
 t70 := Try.underlying77
 a70 := Try.isAgg77
 z70 := Try.sizeOf77
 v70 := Try.zeroValue77
 t72 := Try.underlying79
 a72 := Try.isAgg79
 z72 := Try.sizeOf79
 v72 := Try.zeroValue79 }
def Try.lays169_ren : Go.Shelf.Ren := ⟨fun | 169 => 45 | n => n, fun | 70 => 77 | 9 => 9 | 0 => 0 | 72 => 79 | 37 => 70 | 127 => 107 | 3 => 3 | 5 => 5 | n => n, fun | n => n⟩
theorem Try.lays169 : Go.Proofs.Lays.n169 Try.prog Try.lays169_ren := {
 mixed := by kernel_rfl
 f169 := Try.func45.trans (congrArg some (by kernel_rfl))
 t0 := Try.underlying0
 a0 := Try.isAgg0
 z0 := Try.sizeOf0
 v0 := Try.zeroValue0
 t3 := Try.underlying3
 a3 := Try.isAgg3
 z3 := Try.sizeOf3
 v3 := Try.zeroValue3
 t9 := Try.underlying9
 a9 := Try.isAgg9
 z9 := Try.sizeOf9
 v9 := Try.zeroValue9
 t37 := Try.underlying70
 a37 := Try.isAgg70
 z37 := Try.sizeOf70
 v37 := Try.zeroValue70
 t70 := Try.underlying77
 a70 := Try.isAgg77
 z70 := Try.sizeOf77
 v70 := Try.zeroValue77
 t72 := Try.underlying79
 a72 := Try.isAgg79
 z72 := Try.sizeOf79
 v72 := Try.zeroValue79
 t127 := Try.underlying107
 a127 := Try.isAgg107
 z127 := Try.sizeOf107
 v127 := Try.zeroValue107 }
theorem Try.Builder_Extra_169 : Builder.Extra Try.prog Try.lays169_ren := {
 sizeBuilder := by kernel_rfl
 liesBuilder := by kernel_rfl
 t5 := Try.underlying5
 a5 := Try.isAgg5
 z5 := Try.sizeOf5
 v5 := Try.zeroValue5
 infoByte := by kernel_rfl
 cellsByte := by kernel_rfl
 sizeByte := by kernel_rfl
 neB5 := by decide }
def Try.lays137_ren : Go.Shelf.Ren := ⟨fun | 137 => 35 | 217 => 52 | 266 => 76 | n => n, fun | 9 => 9 | 5 => 5 | 3 => 3 | n => n, fun | n => n⟩
theorem Try.lays137 : Go.Proofs.Lays.n137 Try.prog Try.lays137_ren := {
 mixed := by kernel_rfl
 f137 := Try.func35.trans (congrArg some (by kernel_rfl))
 f217 := Try.func52.trans (congrArg some (by kernel_rfl))
 f266 := Try.func76.trans (congrArg some (by kernel_rfl))
 t3 := Try.underlying3
 a3 := Try.isAgg3
 z3 := Try.sizeOf3
 v3 := Try.zeroValue3
 t5 := Try.underlying5
 a5 := Try.isAgg5
 z5 := Try.sizeOf5
 v5 := Try.zeroValue5
 t9 := Try.underlying9
 a9 := Try.isAgg9
 z9 := Try.sizeOf9
 v9 := Try.zeroValue9 }
open Go.RowKit in
/-- strings.IndexByte: "IndexByte returns the index of the first instance of c in s, or -1 if c is not present in s.": IT RETURNS 'Lib.indexByte s c'; the world is as it was. (LAID: no walk: one application.) -/
theorem Try.strings_IndexByte (s : ByteArray) (c : Int) (w : World) :
  Calls Try.prog 35 #[.string s, .int .u8 c] w fun e w' => e = .returned (.int .i64 (Lib.indexByte s.data.toList c.toNat.toUInt8)) ∧ w' = w := Any.strings_IndexByte Try.lays137 s c w
def Try.lays215_ren : Go.Shelf.Ren := ⟨fun | 215 => 91 | n => n, fun | 3 => 3 | 4 => 4 | n => n, fun | n => n⟩
theorem Try.lays215 : Go.Proofs.Lays.n215 Try.prog Try.lays215_ren := {
 mixed := by kernel_rfl
 f215 := Try.func91.trans (congrArg some (by kernel_rfl))
 t3 := Try.underlying3
 a3 := Try.isAgg3
 z3 := Try.sizeOf3
 v3 := Try.zeroValue3
 t4 := Try.underlying4
 a4 := Try.isAgg4
 z4 := Try.sizeOf4
 v4 := Try.zeroValue4 }
open Go.RowKit in
/-- cmp.isNaN at int: 'x != x': false. (LAID: no walk: one application.) -/
theorem Try.cmp_isNaN_int (x : Int) (w : World) :
  Calls Try.prog 91 #[.int .i64 x] w fun e w' => e = .returned (.bool false) ∧ w' = w := Any.cmp_isNaN_int Try.lays215 x w
open Go.RowKit in
/-- (*strings.Builder).Len: "Len returns the number of accumulated bytes; b.Len() == len(b.String()).": the world is as it was. (THE FORM '_f': 'Lib.IsBuilderF'.) (LAID: no walk: one application.) -/
theorem Try.Builder_Len_f (B b : Nat) (bs : List Value) (w : World) (h : Lib.IsBuilderF 79 5 B b bs w) :
  Calls Try.prog 73 #[.pointer (some ⟨b, 0, none⟩)] w fun e w' => e = .returned (.int .i64 bs.length) ∧ w' = w := Any.Builder_Len_f Try.lays170 B b bs w h
open Go.RowKit in
/-- (*strings.Builder).String: "String returns the accumulated string.": WHATEVER THE BUILDER HOLDS; THE FORM '_f': OF A BUILDER THAT MAY HAVE BEEN READ BEFORE; AND IT IS A BUILDER STILL, holding the same bytes: it can be written on. (LAID: no walk: one application.) -/
theorem Try.Builder_String_any_f (B b : Nat) (l : List UInt8) (w : World) (h : Lib.IsBuilderF 79 5 B b (Lib.byteCells l) w) (hBw : B ≤ w.heap.size) :
  Calls Try.prog 45 #[.pointer (some ⟨b, 0, none⟩)] w fun e w' => e = .returned (.string ⟨l.toArray⟩) ∧ (Lib.IsBuilderF 79 5 B b (Lib.byteCells l) w' ∧ Below B w w') := Any.Builder_String_any_f Try.lays169 Try.Builder_Extra_169 B b l w h hBw
def Try.lays149_ren : Go.Shelf.Ren := ⟨fun | 149 => 33 | 222 => 50 | n => n, fun | 9 => 9 | 5 => 5 | 3 => 3 | 4 => 4 | n => n, fun | n => n⟩
theorem Try.lays149 : Go.Proofs.Lays.n149 Try.prog Try.lays149_ren := {
 mixed := by kernel_rfl
 f149 := Try.func33.trans (congrArg some (by kernel_rfl))
 f222 := Try.func50.trans (congrArg some (by kernel_rfl))
 t3 := Try.underlying3
 a3 := Try.isAgg3
 z3 := Try.sizeOf3
 v3 := Try.zeroValue3
 t4 := Try.underlying4
 a4 := Try.isAgg4
 z4 := Try.sizeOf4
 v4 := Try.zeroValue4
 t5 := Try.underlying5
 a5 := Try.isAgg5
 z5 := Try.sizeOf5
 v5 := Try.zeroValue5
 t9 := Try.underlying9
 a9 := Try.isAgg9
 z9 := Try.sizeOf9
 v9 := Try.zeroValue9 }
open Go.RowKit Go.Lib in
/-- strings.LastIndexByte: "LastIndexByte returns the index of the last instance of c in s, or -1 if c is not present in s." (LAID: no walk: one application.) -/
theorem Try.strings_LastIndexByte (s : ByteArray) (c : Int) (hs : s.size < 4611686018427387904) (w : World) :
  Calls Try.prog 33 #[.string s, .int .u8 c] w fun e w' => e = .returned (.int .i64 (Lib.lastIndexByte s c)) ∧ w' = w := Any.strings_LastIndexByte Try.lays149 s c hs w
def Try.lays206_ren : Go.Shelf.Ren := ⟨fun | 206 => 92 | n => n, fun | 9 => 9 | 4 => 4 | 3 => 3 | n => n, fun | n => n⟩
theorem Try.lays206 : Go.Proofs.Lays.n206 Try.prog Try.lays206_ren := {
 mixed := by kernel_rfl
 f206 := Try.func92.trans (congrArg some (by kernel_rfl))
 t3 := Try.underlying3
 a3 := Try.isAgg3
 z3 := Try.sizeOf3
 v3 := Try.zeroValue3
 t4 := Try.underlying4
 a4 := Try.isAgg4
 z4 := Try.sizeOf4
 v4 := Try.zeroValue4
 t9 := Try.underlying9
 a9 := Try.isAgg9
 z9 := Try.sizeOf9
 v9 := Try.zeroValue9 }
open Go.RowKit Go.Lib in
/-- internal/stringslite.HasPrefix (what strings.HasPrefix calls). (LAID: no walk: one application.) -/
theorem Try.stringslite_HasPrefix (s p : ByteArray) (w : World) :
  Calls Try.prog 92 #[.string s, .string p] w fun e w' => e = .returned (.bool (Lib.hasPrefix s.data.toList p.data.toList)) ∧ w' = w := Any.stringslite_HasPrefix Try.lays206 s p w
def Try.lays99_ren : Go.Shelf.Ren := ⟨fun | 99 => 80 | 206 => 92 | n => n, fun | 9 => 9 | 4 => 4 | 3 => 3 | n => n, fun | n => n⟩
theorem Try.lays99 : Go.Proofs.Lays.n99 Try.prog Try.lays99_ren := {
 mixed := by kernel_rfl
 f99 := Try.func80.trans (congrArg some (by kernel_rfl))
 f206 := Try.func92.trans (congrArg some (by kernel_rfl))
 t3 := Try.underlying3
 a3 := Try.isAgg3
 z3 := Try.sizeOf3
 v3 := Try.zeroValue3
 t4 := Try.underlying4
 a4 := Try.isAgg4
 z4 := Try.sizeOf4
 v4 := Try.zeroValue4
 t9 := Try.underlying9
 a9 := Try.isAgg9
 z9 := Try.sizeOf9
 v9 := Try.zeroValue9 }
open Go.RowKit Go.Lib in
/-- strings.HasPrefix: "HasPrefix reports whether the string s begins with prefix.": IT RETURNS 'Lib.hasPrefix s prefix'; the world is as it was. (LAID: no walk: one application.) -/
theorem Try.strings_HasPrefix (s p : ByteArray) (w : World) :
  Calls Try.prog 80 #[.string s, .string p] w fun e w' => e = .returned (.bool (Lib.hasPrefix s.data.toList p.data.toList)) ∧ w' = w := Any.strings_HasPrefix Try.lays99 s p w
end Go.Proofs

set_option linter.unusedVariables false
namespace Go.Proofs.Ytahcpappailjgaa.Bld
open Go.RowKit
theorem infoByte : (Try.prog.info? 5).map (fun i => (i.zero, i.size, i.bytes)) = some (some (.int .u8 0), 1, 1) := by kernel_rfl
theorem sizeBuilder : (Try.prog.info? 79).map (·.size) = some 2 := by kernel_rfl
theorem liesBuilder : liesAt Try.prog Try.prog.depth 79 (2 / Try.prog.cellsOf 79) 0 79 1 = true := by kernel_rfl

set_option maxHeartbeats 1000000 in
set_option maxRecDepth 100000 in
theorem copyCheck_used (b : Nat) (w : World) (h0 : w.cell? ⟨b, 0, none⟩ = some (.pointer (some ⟨b, 0, none⟩))) :
  Calls Try.prog 67 #[.pointer (some ⟨b, 0, none⟩)] w fun e w' => e = .returned (.tuple #[]) ∧ w' = w := by
 obtain ⟨j, hj, _⟩ := Option.map_eq_some_iff.1 sizeBuilder; go_enter Try.func67, Try.ntmps67; go_wp2; rw [Lib.run_neq_ptr_same w _ Try.underlying77 hj]; go_wp2; go_end0; exact ⟨rfl, rfl⟩

set_option maxHeartbeats 1000000 in
set_option maxRecDepth 100000 in
theorem copyCheck_fresh (b : Nat) (w : World) (h0 : w.cell? ⟨b, 0, none⟩ = some (.pointer none)) (hsh : w.shape? b = some (79, 2)) (hfz : w.frozen? ⟨b, 0, none⟩ = false) :
  Calls Try.prog 67 #[.pointer (some ⟨b, 0, none⟩)] w fun e w' => e = .returned (.tuple #[]) ∧ w' = w.setCell ⟨b, 0, none⟩ (.pointer (some ⟨b, 0, none⟩)) := by
 obtain ⟨j, hj, hjs⟩ := Option.map_eq_some_iff.1 sizeBuilder; go_enter Try.func67, Try.ntmps67; go_wp2; rw [Lib.run_to_unsafe w ⟨b, 0, none⟩ Try.underlying77 Try.underlying120 hj (by rw [hjs]; decide) hsh (Nat.zero_lt_succ 1)]; simp only [Result.andThen]; rw [Oper.upon_value]; go_wp2; rw [run_callFunc_extern Try.func88 (by kernel_rfl) (by kernel_rfl) (by kernel_rfl) (e := Extern.AbiNoEscape.same) (by kernel_rfl)]; rw [Lib.run_noEscape]; simp only [Result.andThen]; rw [Oper.upon_value]; go_wp2; rw [Lib.run_from_unsafe w ⟨b, 0, none⟩ Try.underlying120 Try.underlying77 hj hsh liesBuilder]; simp only [Result.andThen]; rw [Oper.upon_value]; go_wp2; go_end0; exact ⟨rfl, rfl⟩

theorem copyCheck_k (B b : Nat) (bs : List Value) (w : World) (h : Lib.IsBuilderF 79 5 B b bs w) :
  Calls Try.prog 67 #[.pointer (some ⟨b, 0, none⟩)] w fun e w' => e = .returned (.tuple #[]) ∧ (Lib.BuilderAtF 79 5 B b (.pointer (some ⟨b, 0, none⟩)) bs w' ∧ Below B w w' ∧ Lib.OthersKept 5 (some b) w w') := by
 rcases h with h | h
 ·refine (copyCheck_fresh b w h.cell0 h.shape h.frozen0).mono ?_; rintro e w' ⟨rfl, rfl⟩; exact ⟨rfl, h.used _, (Below.refl B w).setCell (p := ⟨b, 0, none⟩) h.1 _, (Lib.OthersKept.refl _ _ w).setCell ⟨b, 0, none⟩ rfl _⟩
 ·refine (copyCheck_used b w h.cell0).mono ?_; rintro e w' ⟨rfl, rfl⟩; exact ⟨rfl, h, Below.refl B _, Lib.OthersKept.refl _ _ _⟩

set_option maxHeartbeats 2000000 in
set_option maxRecDepth 100000 in
theorem WriteString_k (B b : Nat) (bs : List Value) (s : ByteArray) (w : World) (h : Lib.IsBuilderF 79 5 B b bs w) (hlen : bs.length + s.size ≤ 140737488355328) (hBw : B ≤ w.heap.size) :
  Calls Try.prog 44 #[.pointer (some ⟨b, 0, none⟩), .string s] w fun e w' => e = .returned (.tuple #[.int .i64 s.size, .nilIface]) ∧ (Lib.BuilderAtF 79 5 B b (.pointer (some ⟨b, 0, none⟩)) (bs ++ Lib.strCells s) w' ∧ Below B w w' ∧ Lib.OthersKept 5 (some b) w w') := by
 obtain ⟨i0, hi, hz0, hz1, hz2⟩ := info_parts infoByte; go_enter Try.func44, Try.ntmps44
 go_wp2_with (go_at_call 67; refine (copyCheck_k B b bs _ h).mono ?_)
 rintro e w1 ⟨rfl, h1, hb1, hk1⟩; obtain ⟨hB, v, hbk, hown, hne⟩ := h1
 have c0 : w1.cell? ⟨b, 0, none⟩ = some (.pointer (some ⟨b, 0, none⟩)) := (by rw [Lib.cell_of_heap hbk]; rfl)
 have c1 : w1.cell? ⟨b, 1, none⟩ = some v := (by rw [Lib.cell_of_heap hbk]; rfl)
 go_wp2_with (at_builtin; refine Lib.wpList_append_own_stringF _ rfl _ _ 70 9 rfl B 5 i0 Try.underlying70 Try.underlying9 hi hz0 hz1 hz2 _ _ _ rfl hown s rfl ?c3 ?c4 ?c5 ?_)
 case c3 => unfold maxLen; omega
 case c4 => omega
 case c5 => have := hb1.size; omega
 intro v' w2 hown' hgrow _
 have hlt : b < w1.heap.size := by
  rcases Nat.lt_or_ge b w1.heap.size with h' | h'
  ·exact h'
  ·simp [Array.getElem?_eq_none h'] at hbk
 have hb2 : w2.heap[b]? = some (.cells #[.pointer (some ⟨b, 0, none⟩), v] 79 (0, 0)) := by
  rw [hgrow.block b hlt (fun e => hne e.symm)]; exact hbk
 have d0 : w2.cell? ⟨b, 0, none⟩ = some (.pointer (some ⟨b, 0, none⟩)) := (by rw [Lib.cell_of_heap hb2]; rfl)
 have d1 : w2.cell? ⟨b, 1, none⟩ = some v := (by rw [Lib.cell_of_heap hb2]; rfl)
 have f1 : w2.frozen? ⟨b, 1, none⟩ = false := Lib.frozen_of_heap hb2 1
 obtain ⟨ao, n', cap, rfl⟩ : ∃ ao n' cap, v' = .slice ao n' cap := by
  rcases hown'.2 with ⟨hv, _⟩ | ⟨g, cap, cur, fz, hv, _⟩
  ·exact ⟨_, _, _, hv⟩
  ·exact ⟨_, _, _, hv⟩
 go_wp2
 go_ret2
 refine ⟨rfl, ?_, ?_, (hk1.grown hgrow (Lib.ownsRowF_kind hown)).setCell ⟨b, 1, none⟩ rfl _⟩
 ·exact Lib.BuilderAtF.put (T := 79) (e := 5) hB hb2 (bs' := bs ++ Lib.strCells s) (by simpa [Lib.strCells_length] using hown') (by decide)
 ·exact (hb1.grown hgrow (by have := hb1.size; omega) (fun k hk => (hown.lt k hk).1)).setCell (p := ⟨b, 1, none⟩) hB _

theorem alloc_at (w : World) (o : Obj) : (w.alloc o).heap[w.heap.size]? = some o := by
 show (w.heap.push o)[w.heap.size]? = some o
 simp
/-- The builder at block b (not below B) holds just these bytes. -/
def IsB (B b : Nat) (l : List UInt8) (w : World) : Prop := Lib.IsBuilderF 79 5 B b (Lib.byteCells l) w
theorem byteCells_append (l m : List UInt8) : Lib.byteCells (l ++ m) = Lib.byteCells l ++ Lib.byteCells m := by simp [Lib.byteCells]
theorem byteCells_length (l : List UInt8) : (Lib.byteCells l).length = l.length := by simp [Lib.byteCells]
theorem IsB.alloc {B b : Nat} {l : List UInt8} {w : World} (h : IsB B b l w) (o : Obj) : IsB B b l (w.alloc o) := Lib.IsBuilderF.alloc h o
theorem IsB.new {B : Nat} {w : World} (h : B ≤ w.heap.size) : IsB B w.heap.size [] (w.alloc (.cells #[.pointer none, .slice none 0 0] 79)) :=
 .inl ⟨h, .slice none 0 0, alloc_at _ _, ⟨by simp [Lib.byteCells], .inl ⟨rfl, by simp [Lib.byteCells]⟩⟩, by simp [Value.ownBlock]⟩
theorem IsB.lt {B b : Nat} {l : List UInt8} {w : World} (h : IsB B b l w) : b < w.heap.size := by
 rcases h with h | h
 ·exact h.lt
 ·exact h.lt
/-- WriteString, in bytes. -/
theorem write (B b : Nat) (l : List UInt8) (s : ByteArray) (w : World) (h : IsB B b l w) (hlen : l.length + s.size ≤ 140737488355328) (hBw : B ≤ w.heap.size) :
  Calls Try.prog 44 #[.pointer (some ⟨b, 0, none⟩), .string s] w fun e w' => e = .returned (.tuple #[.int .i64 s.size, .nilIface]) ∧ IsB B b (l ++ s.data.toList) w' ∧ Below B w w' ∧ Lib.OthersKept 5 (some b) w w' := by
 refine (WriteString_k B b (Lib.byteCells l) s w h (by rw [byteCells_length]; exact hlen) hBw).mono ?_; rintro e w' ⟨rfl, h1, h2, h3⟩; refine ⟨rfl, ?_, h2, h3⟩; unfold IsB; rw [byteCells_append]; exact .inr h1

/-- String, in bytes. -/
theorem string (B b : Nat) (l : List UInt8) (w : World) (h : IsB B b l w) (hBw : B ≤ w.heap.size) :
  Calls Try.prog 45 #[.pointer (some ⟨b, 0, none⟩)] w fun e w' => e = .returned (.string ⟨l.toArray⟩) ∧ Below B w w' := by
 refine (Try.Builder_String_any_f B b l w h hBw).mono ?_; rintro e w' ⟨rfl, _, h2⟩; exact ⟨rfl, h2⟩
end Go.Proofs.Ytahcpappailjgaa.Bld

namespace Go.Proofs.Ytahcpappailjgaa.P
open Go.RowKit Go.Proofs.YtahcpappailjgaaW.PrintWords Go.Proofs.YtahcpappailjgaaW.PrintLast Go.Proofs.YtahcpappailjgaaW.PrintMore
attribute [local go_sem] max2_int min2_int max_two min_two max_three min_three max_four min_four
set_option linter.unusedVariables false
set_option linter.unusedSimpArgs false



def errW : Option Int → Value
 | none => .nilIface
 | some c => .iface 0 (.int .i64 c)
theorem errW_none : errW none = .nilIface := rfl
theorem errW_some (c : Int) : errW (some c) = .iface 0 (.int .i64 c) := rfl

theorem info3 : (Try.prog.info? 3).map (fun i => (i.zero, i.size, i.bytes)) = some (some (.int .i64 0), 1, 8) := by kernel_rfl
theorem info39 : (Try.prog.info? 39).map (fun i => (i.zero, i.size, i.bytes)) = some (some (.agg #[(.int .i64 0), (.int .i64 0), (.string ⟨#[]⟩)]), 3, 32) := by kernel_rfl
theorem info59 : (Try.prog.info? 59).map (fun i => (i.zero, i.size, i.bytes)) = some (some (.agg #[(.int .i64 0), (.string ⟨#[]⟩)]), 2, 24) := by kernel_rfl
/-! #### struct type 59 -/
structure S59 where
 f0 : Int
 f1 : ByteArray
def z59 : S59 := ⟨(0 : Int), (⟨#[]⟩ : ByteArray)⟩
def k59 : Kd S59 := Kd.iso (Kd.pair (Kd.int .i64) Kd.string) (fun x : S59 => (x.f0, x.f1))
theorem k59_open {w : World} {x : S59} {cs : List Value} (h : k59.K w x cs) : cs = [.int .i64 x.f0, .string x.f1] := by
 obtain ⟨_, _, rfl, rfl, rfl⟩ := h; exact rfl
theorem k59_mkM (w : World) (base : Nat) (ok : Nat → Prop) (x : S59)  : k59.M w base ok x [.int .i64 x.f0, .string x.f1] := ⟨[.int .i64 x.f0], [.string x.f1], rfl, rfl, rfl⟩
def rd_T59 (xs : List S59) (i : Int) : S59 := xs.getD i.toNat z59
theorem at_T59 {w : World} {A : Option Addr} {n : Nat} {xs : List S59} (h : Kd.C k59 w A n xs) (i : Int) (h0 : 0 ≤ i) (h1 : i < n) : ∃ ad , A = some ad ∧ w.cell? (ad.add (i.toNat * 2)) = some (.int .i64 (rd_T59 xs i).f0) ∧ w.cell? ⟨(ad.add (i.toNat * 2)).block, (ad.add (i.toNat * 2)).off + 1, none⟩ = some (.string (rd_T59 xs i).f1) := by
 obtain ⟨ad, c, e, _, hK, hc0⟩ := Kd.C_get h z59 i h0 h1; have hc : ∀ j u, c[j]? = some u → w.cell? (ad.add (i.toNat * 2 + j)) = some u := hc0; obtain rfl := k59_open hK; exact ⟨ad, e, hc 0 _ rfl, by rw [← add_field _ _ 1 (by omega)]; exact hc 1 _ rfl⟩

/-! #### struct type 39 -/
structure S39 where
 f0 : Int
 f1 : Int
 f2 : ByteArray
def z39 : S39 := ⟨(0 : Int), (0 : Int), (⟨#[]⟩ : ByteArray)⟩
def k39 : Kd S39 := Kd.iso (Kd.pair (Kd.int .i64) (Kd.pair (Kd.int .i64) Kd.string)) (fun x : S39 => (x.f0, x.f1, x.f2))
theorem k39_open {w : World} {x : S39} {cs : List Value} (h : k39.K w x cs) : cs = [.int .i64 x.f0, .int .i64 x.f1, .string x.f2] := by
 obtain ⟨_, _, rfl, rfl, ⟨_, _, rfl, rfl, rfl⟩⟩ := h; exact rfl
theorem k39_mk (w : World) (x : S39)  : k39.K w x [.int .i64 x.f0, .int .i64 x.f1, .string x.f2] := ⟨[.int .i64 x.f0], [.int .i64 x.f1, .string x.f2], rfl, rfl, ⟨[.int .i64 x.f1], [.string x.f2], rfl, rfl, rfl⟩⟩
theorem k39_mkM (w : World) (base : Nat) (ok : Nat → Prop) (x : S39)  : k39.M w base ok x [.int .i64 x.f0, .int .i64 x.f1, .string x.f2] := ⟨[.int .i64 x.f0], [.int .i64 x.f1, .string x.f2], rfl, rfl, ⟨[.int .i64 x.f1], [.string x.f2], rfl, rfl, rfl⟩⟩
def rd_T39 (xs : List S39) (i : Int) : S39 := xs.getD i.toNat z39
theorem at_T39 {w : World} {A : Option Addr} {n : Nat} {xs : List S39} (h : Kd.C k39 w A n xs) (i : Int) (h0 : 0 ≤ i) (h1 : i < n) : ∃ ad , A = some ad ∧ w.cell? (ad.add (i.toNat * 3)) = some (.int .i64 (rd_T39 xs i).f0) ∧ w.cell? ⟨(ad.add (i.toNat * 3)).block, (ad.add (i.toNat * 3)).off + 1, none⟩ = some (.int .i64 (rd_T39 xs i).f1) ∧ w.cell? ⟨(ad.add (i.toNat * 3)).block, (ad.add (i.toNat * 3)).off + 2, none⟩ = some (.string (rd_T39 xs i).f2) := by
 obtain ⟨ad, c, e, _, hK, hc0⟩ := Kd.C_get h z39 i h0 h1; have hc : ∀ j u, c[j]? = some u → w.cell? (ad.add (i.toNat * 3 + j)) = some u := hc0; obtain rfl := k39_open hK; exact ⟨ad, e, hc 0 _ rfl, by rw [← add_field _ _ 1 (by omega)]; exact hc 1 _ rfl, by rw [← add_field _ _ 2 (by omega)]; exact hc 2 _ rfl⟩

end Go.Proofs.Ytahcpappailjgaa.P

set_option linter.unusedVariables false
set_option linter.unusedSimpArgs false
namespace Go.Proofs.Ytahcpappailjgaa.P
open Go.RowKit Go.Proofs.Ytahcpappailjgaa Go.Proofs.YtahcpappailjgaaW.PrintWords
variable {H : Type} {enc : TypeId × Value → H} {W : World}
def ok39 (x : S39) : Prop := OpG.okI x.f0 ∧ OpG.okI x.f1 ∧ OpG.okS x.f2
theorem open39 (n : Nat) : OpG.OpF enc Try.prog W n 39 k39 ok39 := by
 intro cs x h; obtain ⟨xs, m, rfl, _, hcl, hxl, hf⟩ := DataW.trod_struct Try.underlying39 h; have hcs : cs.length = 3 := hcl.trans (by kernel_rfl); have e0 : DataW.trod enc Try.prog W 0 (fun _ => true) true m 3 ((cs.drop 0).take (Try.prog.cellsOf 3)) = xs[0]? := hf 0 _ rfl; rw [show Try.prog.cellsOf 3 = 1 by kernel_rfl] at e0; rw [List.getElem?_eq_getElem (by rw [hxl]; decide)] at e0; obtain ⟨a0, c0, o0⟩ := ((OpG.OpF.int Try.underlying3) : OpG.OpF enc Try.prog W m 3 (Kd.int .i64) OpG.okI) _ _ e0; have e1 : DataW.trod enc Try.prog W 0 (fun _ => true) true m 3 ((cs.drop 1).take (Try.prog.cellsOf 3)) = xs[1]? := hf 1 _ rfl; rw [show Try.prog.cellsOf 3 = 1 by kernel_rfl] at e1; rw [List.getElem?_eq_getElem (by rw [hxl]; decide)] at e1; obtain ⟨a1, c1, o1⟩ := ((OpG.OpF.int Try.underlying3) : OpG.OpF enc Try.prog W m 3 (Kd.int .i64) OpG.okI) _ _ e1; have e2 : DataW.trod enc Try.prog W 0 (fun _ => true) true m 9 ((cs.drop 2).take (Try.prog.cellsOf 9)) = xs[2]? := hf 2 _ rfl; rw [show Try.prog.cellsOf 9 = 1 by kernel_rfl] at e2; rw [List.getElem?_eq_getElem (by rw [hxl]; decide)] at e2; obtain ⟨a2, c2, o2⟩ := ((OpG.OpF.string Try.underlying9) : OpG.OpF enc Try.prog W m 9 Kd.string OpG.okS) _ _ e2
 have hsp : cs = ((cs.drop 0).take 1) ++ (((cs.drop 1).take 1) ++ ((cs.drop 2).take 1)) := by
  obtain ⟨u0, u1, u2, rfl⟩ : ∃ u0 u1 u2, cs = [u0, u1, u2] := by
   clear e0 h hf hcl e1 e2 c0 c1 c2
   match cs, hcs with
   | [u0, u1, u2], _ => exact ⟨u0, u1, u2, rfl⟩
  rfl
 refine ⟨⟨a0, a1, a2⟩, ?_, o0, o1, o2⟩; rw [hsp]; exact (show k39.K W _ _ from ⟨_, _, rfl, c0, ⟨_, _, rfl, c1, c2⟩⟩)
end Go.Proofs.Ytahcpappailjgaa.P

namespace Go.Proofs.Ytahcpappailjgaa.P
open Go.RowKit Go.Proofs.YtahcpappailjgaaW.PrintWords Go.Proofs.YtahcpappailjgaaW.PrintLast Go.Proofs.YtahcpappailjgaaW.PrintMore
attribute [local go_sem] max2_int min2_int max_two min_two max_three min_three max_four min_four
set_option linter.unusedVariables false
set_option linter.unusedSimpArgs false

def strings_IndexByte.f (a0 : ByteArray) (a1 : Int) : Option (Int) := some (Lib.indexByte a0.data.toList a1.toNat.toUInt8)
set_option maxRecDepth 100000 in
theorem strings_IndexByte.calls (a0 : ByteArray) (a1 : Int) (r : Int) (w : World) (h : strings_IndexByte.f a0 a1 = some r) :
  Calls Try.prog 35 #[.string a0, .int .u8 a1] w fun e w' => e = .returned (.int .i64 r) ∧ Drawn0 w w' := by
 simp only [strings_IndexByte.f, Option.some.injEq] at h; subst h; refine (Try.strings_IndexByte a0 a1 w).mono ?_; rintro e w' ⟨rfl, rfl⟩; exact ⟨rfl, Drawn0.refl _⟩

end Go.Proofs.Ytahcpappailjgaa.P

namespace Go.Proofs.Ytahcpappailjgaa.P
open Go.RowKit Go.Proofs.YtahcpappailjgaaW.PrintWords Go.Proofs.YtahcpappailjgaaW.PrintLast Go.Proofs.YtahcpappailjgaaW.PrintMore
attribute [local go_sem] max2_int min2_int max_two min_two max_three min_three max_four min_four
set_option linter.unusedVariables false
set_option linter.unusedSimpArgs false

/-! ### token_line: function 65 -/
def token_line.f (a0 : ByteArray) : Option (Int) := (strings_IndexByte.f a0 10).bind fun t112 => (if t112 ≥ 0 then (some t112) else (some (a0.size : Int)))
set_option maxHeartbeats 8000000 in
set_option maxRecDepth 100000 in
theorem token_line.calls (a0 : ByteArray) (r : Int) (w : World) (h : token_line.f a0 = some r) :
  Calls Try.prog 65 #[.string a0] w fun e w' => e = .returned (.int .i64 r) ∧ Drawn0 w w' := by
 have H : ((strings_IndexByte.f a0 10).bind fun t112 => (if t112 ≥ 0 then (some t112) else (some (a0.size : Int)))) = some r := h; clear h; replace H := zo H; obtain ⟨t112, A2, H⟩ := H; by_cases c3 : t112 ≥ 0
 ·rw [if_pos c3] at H; have c3b0 := decide_eq_true c3; clear c3; obtain rfl := Option.some.inj H; go_enter Try.func65, Try.ntmps65
  go_wp2_with (first | ((with_reducible refine zG 35 rfl ?_); refine zg 5 Try.func35 ((strings_IndexByte.calls a0 10 t112 _ A2.out).mono ?_); rintro e w' ⟨rfl, ⟨nd, rfl⟩⟩; refine ⟨_, rfl, ?_⟩))
  go_ret; exact ⟨zs, zX⟩
 ·rw [if_neg c3] at H; have c3b0 := decide_eq_false c3; clear c3; obtain rfl := Option.some.inj H; go_enter Try.func65, Try.ntmps65
  go_wp2_with (first | ((with_reducible refine zG 35 rfl ?_); refine zg 5 Try.func35 ((strings_IndexByte.calls a0 10 t112 _ A2.out).mono ?_); rintro e w' ⟨rfl, ⟨nd, rfl⟩⟩; refine ⟨_, rfl, ?_⟩))
  go_ret; exact ⟨zs, zX⟩

/-! ### token_isBlank: function 78 -/
def token_isBlank.f (a0 : Int) : Option (Bool) := if a0 = 32 then (some true) else (if a0 = 9 then (some true) else (if a0 = 10 then (some true) else (some (a0 == 13))))
set_option maxHeartbeats 8000000 in
set_option maxRecDepth 100000 in
theorem token_isBlank.calls (a0 : Int) (r : Bool) (w : World) (h : token_isBlank.f a0 = some r) :
  Calls Try.prog 78 #[.int .u8 a0] w fun e w' => e = .returned (.bool r) ∧ Drawn0 w w' := by
 have H : (if a0 = 32 then (some true) else (if a0 = 9 then (some true) else (if a0 = 10 then (some true) else (some (a0 == 13))))) = some r := h; clear h; by_cases c2 : a0 = 32
 ·rw [if_pos c2] at H; have c2b0 : (a0 == 32) = true := beq_iff_eq.mpr c2; have c2b1 : (a0 != 32) = false := bne_eq_false_iff_eq.mpr c2; clear c2; obtain rfl := Option.some.inj H; go_enter Try.func78, Try.ntmps78; go_wp2; go_ret; exact ⟨zs, zX⟩
 ·rw [if_neg c2] at H; have c2b0 : (a0 == 32) = false := beq_eq_false_iff_ne.mpr c2; have c2b1 : (a0 != 32) = true := bne_iff_ne.mpr c2; by_cases c3 : a0 = 9
  ·rw [if_pos c3] at H; have c3b0 : (a0 == 9) = true := beq_iff_eq.mpr c3; have c3b1 : (a0 != 9) = false := bne_eq_false_iff_eq.mpr c3; clear c3; obtain rfl := Option.some.inj H; go_enter Try.func78, Try.ntmps78; go_wp2; go_ret; exact ⟨zs, zX⟩
  ·rw [if_neg c3] at H; have c3b0 : (a0 == 9) = false := beq_eq_false_iff_ne.mpr c3; have c3b1 : (a0 != 9) = true := bne_iff_ne.mpr c3; by_cases c4 : a0 = 10
   ·rw [if_pos c4] at H; have c4b0 : (a0 == 10) = true := beq_iff_eq.mpr c4; have c4b1 : (a0 != 10) = false := bne_eq_false_iff_eq.mpr c4; clear c4; obtain rfl := Option.some.inj H; go_enter Try.func78, Try.ntmps78; go_wp2; go_ret; exact ⟨zs, zX⟩
   ·rw [if_neg c4] at H; have c4b0 : (a0 == 10) = false := beq_eq_false_iff_ne.mpr c4; have c4b1 : (a0 != 10) = true := bne_iff_ne.mpr c4; obtain rfl := Option.some.inj H; go_enter Try.func78, Try.ntmps78; go_wp2; go_ret; exact ⟨zs, zX⟩

/-! ### stringslite_HasPrefix: function 92 -/
def stringslite_HasPrefix.f (a0 : ByteArray) (a1 : ByteArray) : Option (Bool) := if (a0.size : Int) ≥ (a1.size : Int) then (if 0 ≤ (a1.size : Int) then (if (a1.size : Int) ≤ (a0.size : Int) then (some ((a0.extract 0 ((a1.size : Int) : Int).toNat).toList == a1.toList)) else (none)) else (none)) else (some false)
set_option maxHeartbeats 8000000 in
set_option maxRecDepth 100000 in
theorem stringslite_HasPrefix.calls (a0 : ByteArray) (a1 : ByteArray) (r : Bool) (w : World) (h : stringslite_HasPrefix.f a0 a1 = some r) :
  Calls Try.prog 92 #[.string a0, .string a1] w fun e w' => e = .returned (.bool r) ∧ Drawn0 w w' := by
 have H : (if (a0.size : Int) ≥ (a1.size : Int) then (if 0 ≤ (a1.size : Int) then (if (a1.size : Int) ≤ (a0.size : Int) then (some ((a0.extract 0 ((a1.size : Int) : Int).toNat).toList == a1.toList)) else (none)) else (none)) else (some false)) = some r := h; clear h; by_cases c3 : (a0.size : Int) ≥ (a1.size : Int)
 ·rw [if_pos c3] at H; have c3b0 := decide_eq_true c3; have c3b1 : decide (a1.size ≤ a0.size) = true := decide_eq_true (Int.ofNat_le.mp c3); clear c3; replace H := zi2 H; obtain ⟨c4b0, c4b1, H⟩ := H; replace H := zi2 H; obtain ⟨c5b0, c5b1, H⟩ := H; obtain rfl := Option.some.inj H; go_enter Try.func92, Try.ntmps92; go_wp2; go_ret; exact ⟨zs, zX⟩
 ·rw [if_neg c3] at H; have c3b0 := decide_eq_false c3; have c3b1 : decide (a1.size ≤ a0.size) = false := decide_eq_false (fun h => c3 (Int.ofNat_le.mpr h)); clear c3; obtain rfl := Option.some.inj H; go_enter Try.func92, Try.ntmps92; go_wp2; go_ret; exact ⟨zs, zX⟩

/-! ### strings_HasPrefix: function 80 -/
def strings_HasPrefix.f (a0 : ByteArray) (a1 : ByteArray) : Option (Bool) := (stringslite_HasPrefix.f a0 a1).bind fun t113 => (some t113)
set_option maxHeartbeats 8000000 in
set_option maxRecDepth 100000 in
theorem strings_HasPrefix.calls (a0 : ByteArray) (a1 : ByteArray) (r : Bool) (w : World) (h : strings_HasPrefix.f a0 a1 = some r) :
  Calls Try.prog 80 #[.string a0, .string a1] w fun e w' => e = .returned (.bool r) ∧ Drawn0 w w' := by
 have H : ((stringslite_HasPrefix.f a0 a1).bind fun t113 => (some t113)) = some r := h; clear h; replace H := zo H; obtain ⟨t113, A3, H⟩ := H; obtain rfl := Option.some.inj H; go_enter Try.func80, Try.ntmps80
 go_wp2_with (first | ((with_reducible refine zG 92 rfl ?_); refine zg 7 Try.func92 ((stringslite_HasPrefix.calls a0 a1 t113 _ A3.out).mono ?_); rintro e w' ⟨rfl, ⟨nd, rfl⟩⟩; refine ⟨_, rfl, ?_⟩))
 go_ret; exact ⟨zs, zX⟩

/-! ### token_isLetter: function 81 -/
def token_isLetter.f (a0 : Int) : Option (Bool) := if a0 = 95 then (some true) else (if (Go.bits .or .u8 a0 32) ≥ 97 then (some (decide ((Go.bits .or .u8 a0 32) ≤ 122))) else (some false))
set_option maxHeartbeats 8000000 in
set_option maxRecDepth 100000 in
theorem token_isLetter.calls (a0 : Int) (r : Bool) (w : World) (h : token_isLetter.f a0 = some r) :
  Calls Try.prog 81 #[.int .u8 a0] w fun e w' => e = .returned (.bool r) ∧ Drawn0 w w' := by
 have H : (if a0 = 95 then (some true) else (if (Go.bits .or .u8 a0 32) ≥ 97 then (some (decide ((Go.bits .or .u8 a0 32) ≤ 122))) else (some false))) = some r := h; clear h; by_cases c2 : a0 = 95
 ·rw [if_pos c2] at H; have c2b0 : (a0 == 95) = true := beq_iff_eq.mpr c2; have c2b1 : (a0 != 95) = false := bne_eq_false_iff_eq.mpr c2; clear c2; obtain rfl := Option.some.inj H; go_enter Try.func81, Try.ntmps81; go_wp2; go_ret; exact ⟨zs, zX⟩
 ·rw [if_neg c2] at H; have c2b0 : (a0 == 95) = false := beq_eq_false_iff_ne.mpr c2; have c2b1 : (a0 != 95) = true := bne_iff_ne.mpr c2; by_cases c3 : (Go.bits .or .u8 a0 32) ≥ 97
  ·rw [if_pos c3] at H; have c3b0 := decide_eq_true c3; clear c3; obtain rfl := Option.some.inj H; go_enter Try.func81, Try.ntmps81; go_wp2; go_ret; exact ⟨zs, zX⟩
  ·rw [if_neg c3] at H; have c3b0 := decide_eq_false c3; clear c3; obtain rfl := Option.some.inj H; go_enter Try.func81, Try.ntmps81; go_wp2; go_ret; exact ⟨zs, zX⟩

/-! ### token_isDigit: function 83 -/
def token_isDigit.f (a0 : Int) : Option (Bool) := if a0 ≥ 48 then (some (decide (a0 ≤ 57))) else (some false)
set_option maxHeartbeats 8000000 in
set_option maxRecDepth 100000 in
theorem token_isDigit.calls (a0 : Int) (r : Bool) (w : World) (h : token_isDigit.f a0 = some r) :
  Calls Try.prog 83 #[.int .u8 a0] w fun e w' => e = .returned (.bool r) ∧ Drawn0 w w' := by
 have H : (if a0 ≥ 48 then (some (decide (a0 ≤ 57))) else (some false)) = some r := h; clear h; by_cases c2 : a0 ≥ 48
 ·rw [if_pos c2] at H; have c2b0 := decide_eq_true c2; clear c2; obtain rfl := Option.some.inj H; go_enter Try.func83, Try.ntmps83; go_wp2; go_ret; exact ⟨zs, zX⟩
 ·rw [if_neg c2] at H; have c2b0 := decide_eq_false c2; clear c2; obtain rfl := Option.some.inj H; go_enter Try.func83, Try.ntmps83; go_wp2; go_ret; exact ⟨zs, zX⟩

/-! ### token_isWord: function 84 -/
def token_isWord.f (a0 : ByteArray) : Option (Bool) := if a0.toList = ([100, 101, 102] : List UInt8) then (some true) else (if a0.toList = ([101, 108, 115, 101] : List UInt8) then (some true) else (if a0.toList = ([102, 97, 108, 115, 101] : List UInt8) then (some true) else (if a0.toList = ([102, 110] : List UInt8) then (some true) else (if a0.toList = ([105, 102] : List UInt8) then (some true) else (if a0.toList = ([105, 109, 112, 111, 114, 116] : List UInt8) then (some true) else (if a0.toList = ([105, 110] : List UInt8) then (some true) else (if a0.toList = ([108, 101, 116] : List UInt8) then (some true) else (if a0.toList = ([109, 97, 116, 99, 104] : List UInt8) then (some true) else (if a0.toList = ([116, 104, 101, 110] : List UInt8) then (some true) else (if a0.toList = ([116, 114, 117, 101] : List UInt8) then (some true) else (if a0.toList = ([116, 121, 112, 101] : List UInt8) then (some true) else (some false))))))))))))
set_option maxHeartbeats 8000000 in
set_option maxRecDepth 100000 in
theorem token_isWord.calls (a0 : ByteArray) (r : Bool) (w : World) (h : token_isWord.f a0 = some r) :
  Calls Try.prog 84 #[.string a0] w fun e w' => e = .returned (.bool r) ∧ Drawn0 w w' := by
 have H : (if a0.toList = ([100, 101, 102] : List UInt8) then (some true) else (if a0.toList = ([101, 108, 115, 101] : List UInt8) then (some true) else (if a0.toList = ([102, 97, 108, 115, 101] : List UInt8) then (some true) else (if a0.toList = ([102, 110] : List UInt8) then (some true) else (if a0.toList = ([105, 102] : List UInt8) then (some true) else (if a0.toList = ([105, 109, 112, 111, 114, 116] : List UInt8) then (some true) else (if a0.toList = ([105, 110] : List UInt8) then (some true) else (if a0.toList = ([108, 101, 116] : List UInt8) then (some true) else (if a0.toList = ([109, 97, 116, 99, 104] : List UInt8) then (some true) else (if a0.toList = ([116, 104, 101, 110] : List UInt8) then (some true) else (if a0.toList = ([116, 114, 117, 101] : List UInt8) then (some true) else (if a0.toList = ([116, 121, 112, 101] : List UInt8) then (some true) else (some false))))))))))))) = some r := h; clear h; by_cases c2 : a0.toList = ([100, 101, 102] : List UInt8)
 ·rw [if_pos c2] at H; have c2b0 : (a0.toList == ([100, 101, 102] : List UInt8)) = true := beq_iff_eq.mpr c2; have c2b1 : (a0.toList != ([100, 101, 102] : List UInt8)) = false := bne_eq_false_iff_eq.mpr c2; clear c2; obtain rfl := Option.some.inj H; go_enter Try.func84, Try.ntmps84; go_wp2; go_ret; exact ⟨zs, zX⟩
 ·rw [if_neg c2] at H; have c2b0 : (a0.toList == ([100, 101, 102] : List UInt8)) = false := beq_eq_false_iff_ne.mpr c2; have c2b1 : (a0.toList != ([100, 101, 102] : List UInt8)) = true := bne_iff_ne.mpr c2; by_cases c3 : a0.toList = ([101, 108, 115, 101] : List UInt8)
  ·rw [if_pos c3] at H; have c3b0 : (a0.toList == ([101, 108, 115, 101] : List UInt8)) = true := beq_iff_eq.mpr c3; have c3b1 : (a0.toList != ([101, 108, 115, 101] : List UInt8)) = false := bne_eq_false_iff_eq.mpr c3; clear c3; obtain rfl := Option.some.inj H; go_enter Try.func84, Try.ntmps84; go_wp2; go_ret; exact ⟨zs, zX⟩
  ·rw [if_neg c3] at H; have c3b0 : (a0.toList == ([101, 108, 115, 101] : List UInt8)) = false := beq_eq_false_iff_ne.mpr c3; have c3b1 : (a0.toList != ([101, 108, 115, 101] : List UInt8)) = true := bne_iff_ne.mpr c3; by_cases c4 : a0.toList = ([102, 97, 108, 115, 101] : List UInt8)
   ·rw [if_pos c4] at H; have c4b0 : (a0.toList == ([102, 97, 108, 115, 101] : List UInt8)) = true := beq_iff_eq.mpr c4; have c4b1 : (a0.toList != ([102, 97, 108, 115, 101] : List UInt8)) = false := bne_eq_false_iff_eq.mpr c4; clear c4; obtain rfl := Option.some.inj H; go_enter Try.func84, Try.ntmps84; go_wp2; go_ret; exact ⟨zs, zX⟩
   ·rw [if_neg c4] at H; have c4b0 : (a0.toList == ([102, 97, 108, 115, 101] : List UInt8)) = false := beq_eq_false_iff_ne.mpr c4; have c4b1 : (a0.toList != ([102, 97, 108, 115, 101] : List UInt8)) = true := bne_iff_ne.mpr c4; by_cases c5 : a0.toList = ([102, 110] : List UInt8)
    ·rw [if_pos c5] at H; have c5b0 : (a0.toList == ([102, 110] : List UInt8)) = true := beq_iff_eq.mpr c5; have c5b1 : (a0.toList != ([102, 110] : List UInt8)) = false := bne_eq_false_iff_eq.mpr c5; clear c5; obtain rfl := Option.some.inj H; go_enter Try.func84, Try.ntmps84; go_wp2; go_ret; exact ⟨zs, zX⟩
    ·rw [if_neg c5] at H; have c5b0 : (a0.toList == ([102, 110] : List UInt8)) = false := beq_eq_false_iff_ne.mpr c5; have c5b1 : (a0.toList != ([102, 110] : List UInt8)) = true := bne_iff_ne.mpr c5; by_cases c6 : a0.toList = ([105, 102] : List UInt8)
     ·rw [if_pos c6] at H; have c6b0 : (a0.toList == ([105, 102] : List UInt8)) = true := beq_iff_eq.mpr c6; have c6b1 : (a0.toList != ([105, 102] : List UInt8)) = false := bne_eq_false_iff_eq.mpr c6; clear c6; obtain rfl := Option.some.inj H; go_enter Try.func84, Try.ntmps84; go_wp2; go_ret; exact ⟨zs, zX⟩
     ·rw [if_neg c6] at H; have c6b0 : (a0.toList == ([105, 102] : List UInt8)) = false := beq_eq_false_iff_ne.mpr c6; have c6b1 : (a0.toList != ([105, 102] : List UInt8)) = true := bne_iff_ne.mpr c6; by_cases c7 : a0.toList = ([105, 109, 112, 111, 114, 116] : List UInt8)
      ·rw [if_pos c7] at H; have c7b0 : (a0.toList == ([105, 109, 112, 111, 114, 116] : List UInt8)) = true := beq_iff_eq.mpr c7; have c7b1 : (a0.toList != ([105, 109, 112, 111, 114, 116] : List UInt8)) = false := bne_eq_false_iff_eq.mpr c7; clear c7; obtain rfl := Option.some.inj H; go_enter Try.func84, Try.ntmps84; go_wp2; go_ret; exact ⟨zs, zX⟩
      ·rw [if_neg c7] at H; have c7b0 : (a0.toList == ([105, 109, 112, 111, 114, 116] : List UInt8)) = false := beq_eq_false_iff_ne.mpr c7; have c7b1 : (a0.toList != ([105, 109, 112, 111, 114, 116] : List UInt8)) = true := bne_iff_ne.mpr c7; by_cases c8 : a0.toList = ([105, 110] : List UInt8)
       ·rw [if_pos c8] at H; have c8b0 : (a0.toList == ([105, 110] : List UInt8)) = true := beq_iff_eq.mpr c8; have c8b1 : (a0.toList != ([105, 110] : List UInt8)) = false := bne_eq_false_iff_eq.mpr c8; clear c8; obtain rfl := Option.some.inj H; go_enter Try.func84, Try.ntmps84; go_wp2; go_ret; exact ⟨zs, zX⟩
       ·rw [if_neg c8] at H; have c8b0 : (a0.toList == ([105, 110] : List UInt8)) = false := beq_eq_false_iff_ne.mpr c8; have c8b1 : (a0.toList != ([105, 110] : List UInt8)) = true := bne_iff_ne.mpr c8; by_cases c9 : a0.toList = ([108, 101, 116] : List UInt8)
        ·rw [if_pos c9] at H; have c9b0 : (a0.toList == ([108, 101, 116] : List UInt8)) = true := beq_iff_eq.mpr c9; have c9b1 : (a0.toList != ([108, 101, 116] : List UInt8)) = false := bne_eq_false_iff_eq.mpr c9; clear c9; obtain rfl := Option.some.inj H; go_enter Try.func84, Try.ntmps84; go_wp2; go_ret; exact ⟨zs, zX⟩
        ·rw [if_neg c9] at H; have c9b0 : (a0.toList == ([108, 101, 116] : List UInt8)) = false := beq_eq_false_iff_ne.mpr c9; have c9b1 : (a0.toList != ([108, 101, 116] : List UInt8)) = true := bne_iff_ne.mpr c9; by_cases c10 : a0.toList = ([109, 97, 116, 99, 104] : List UInt8)
         ·rw [if_pos c10] at H; have c10b0 : (a0.toList == ([109, 97, 116, 99, 104] : List UInt8)) = true := beq_iff_eq.mpr c10; have c10b1 : (a0.toList != ([109, 97, 116, 99, 104] : List UInt8)) = false := bne_eq_false_iff_eq.mpr c10; clear c10; obtain rfl := Option.some.inj H; go_enter Try.func84, Try.ntmps84; go_wp2; go_ret; exact ⟨zs, zX⟩
         ·rw [if_neg c10] at H; have c10b0 : (a0.toList == ([109, 97, 116, 99, 104] : List UInt8)) = false := beq_eq_false_iff_ne.mpr c10; have c10b1 : (a0.toList != ([109, 97, 116, 99, 104] : List UInt8)) = true := bne_iff_ne.mpr c10; by_cases c11 : a0.toList = ([116, 104, 101, 110] : List UInt8)
          ·rw [if_pos c11] at H; have c11b0 : (a0.toList == ([116, 104, 101, 110] : List UInt8)) = true := beq_iff_eq.mpr c11; have c11b1 : (a0.toList != ([116, 104, 101, 110] : List UInt8)) = false := bne_eq_false_iff_eq.mpr c11; clear c11; obtain rfl := Option.some.inj H; go_enter Try.func84, Try.ntmps84; go_wp2; go_ret; exact ⟨zs, zX⟩
          ·rw [if_neg c11] at H; have c11b0 : (a0.toList == ([116, 104, 101, 110] : List UInt8)) = false := beq_eq_false_iff_ne.mpr c11; have c11b1 : (a0.toList != ([116, 104, 101, 110] : List UInt8)) = true := bne_iff_ne.mpr c11; by_cases c12 : a0.toList = ([116, 114, 117, 101] : List UInt8)
           ·rw [if_pos c12] at H; have c12b0 : (a0.toList == ([116, 114, 117, 101] : List UInt8)) = true := beq_iff_eq.mpr c12; have c12b1 : (a0.toList != ([116, 114, 117, 101] : List UInt8)) = false := bne_eq_false_iff_eq.mpr c12; clear c12; obtain rfl := Option.some.inj H; go_enter Try.func84, Try.ntmps84; go_wp2; go_ret; exact ⟨zs, zX⟩
           ·rw [if_neg c12] at H; have c12b0 : (a0.toList == ([116, 114, 117, 101] : List UInt8)) = false := beq_eq_false_iff_ne.mpr c12; have c12b1 : (a0.toList != ([116, 114, 117, 101] : List UInt8)) = true := bne_iff_ne.mpr c12; by_cases c13 : a0.toList = ([116, 121, 112, 101] : List UInt8)
            ·rw [if_pos c13] at H; have c13b0 : (a0.toList == ([116, 121, 112, 101] : List UInt8)) = true := beq_iff_eq.mpr c13; have c13b1 : (a0.toList != ([116, 121, 112, 101] : List UInt8)) = false := bne_eq_false_iff_eq.mpr c13; clear c13; obtain rfl := Option.some.inj H; go_enter Try.func84, Try.ntmps84; go_wp2; go_ret; exact ⟨zs, zX⟩
            ·rw [if_neg c13] at H; have c13b0 : (a0.toList == ([116, 121, 112, 101] : List UInt8)) = false := beq_eq_false_iff_ne.mpr c13; have c13b1 : (a0.toList != ([116, 121, 112, 101] : List UInt8)) = true := bne_iff_ne.mpr c13; obtain rfl := Option.some.inj H; go_enter Try.func84, Try.ntmps84; go_wp2; go_ret; exact ⟨zs, zX⟩

/-! ### token_quoted: function 85 -/
def token_quoted.l0 : Nat → ByteArray → Int → Option (Int)
 | 0, _, _ => none
 | k + 1, x0, x3 => if x3 < (x0.size : Int) then (if 0 ≤ x3 then (if (bt x0 x3) = 34 then (some (wrap64 (x3 + 1))) else (if (bt x0 x3) = 10 then (some 0) else (if (bt x0 x3) = 92 then (if (wrap64 (x3 + 1)) = (x0.size : Int) then (some 0) else (if 0 ≤ (wrap64 (x3 + 1)) then (if (wrap64 (x3 + 1)) < (x0.size : Int) then ((strings_IndexByte.f (⟨#[110, 34, 92]⟩ : ByteArray) (bt x0 (wrap64 (x3 + 1)))).bind fun t114 => (if t114 < 0 then (some 0) else (token_quoted.l0 k x0 (wrap64 ((wrap64 (x3 + 1)) + 1))))) else (none)) else (none))) else (token_quoted.l0 k x0 (wrap64 (x3 + 1)))))) else (none)) else (some 0)
def token_quoted.f (k : Nat) (a0 : ByteArray) : Option (Int) := token_quoted.l0 k a0 1
theorem token_quoted.mono_l : ∀ k, (∀ y0 y1, LeO (token_quoted.l0 k y0 y1) (token_quoted.l0 (k + 1) y0 y1))
 | 0 => fun _ _ r h => by simp [token_quoted.l0] at h
 | k + 1 => by
  have ih0 := token_quoted.mono_l k
  (intro y0 y1; unfold token_quoted.l0); rotate_left
  all_goals repeat' first | (with_reducible exact ih0 _ _) | (with_reducible exact LeO.refl _) | (with_reducible exact LeO.none _) | (with_reducible refine LeO.ite ?_ ?_) | (with_reducible refine LeO.bind ?_ (fun _ => ?_)) | exact ih0 _ _ | exact LeO.none _ | refine LeO.ite ?_ ?_ | refine LeO.bind ?_ (fun _ => ?_)
theorem token_quoted.mono : ∀ a0 k, LeO (token_quoted.f k a0) (token_quoted.f (k + 1) a0) := by
 intro a0 k; have ih0 := token_quoted.mono_l k; unfold token_quoted.f
 repeat' first
   | (with_reducible exact ih0 _ _)
   | (with_reducible exact LeO.refl _)
   | (with_reducible exact LeO.none _)
   | (with_reducible refine LeO.ite ?_ ?_)
   | (with_reducible refine LeO.bind ?_ (fun _ => ?_))
   | exact ih0 _ _
   | exact LeO.none _
   | refine LeO.ite ?_ ?_
   | refine LeO.bind ?_ (fun _ => ?_)
set_option maxHeartbeats 8000000 in
set_option maxRecDepth 100000 in
theorem token_quoted.calls (k : Nat) (a0 : ByteArray) (r : Int) (w : World) (h : token_quoted.f k a0 = some r) :
  Calls Try.prog 85 #[.string a0] w fun e w' => e = .returned (.int .i64 r) ∧ Drawn0 w w' := by
 have H : (token_quoted.l0 k a0 1) = some r := h; clear h; have H' := Aside0.mk H; clear H; go_enter Try.func85, Try.ntmps85; go_wp2
 go_loopg [3] k (fun kq v3 w' => ∃ (x3_1 : Int), v3 = .int .i64 x3_1 ∧ Aside0 (token_quoted.l0 kq a0 x3_1 = some r) ∧ Aside0 (kq ≤ k) ∧ Drawn0 w w')
 case atStart => exact ⟨(1), zs, H', ⟨Nat.le_refl _⟩, zX⟩
 case round =>
  clear H'; obtain ⟨x3_1, rfl, HA, HK1, ⟨m1, rfl⟩⟩ := hrel
  cases gk with
  | zero => exact absurd HA.out (by simp [token_quoted.l0])
  | succ k1 =>
   have H := HA.out; clear HA; simp only [token_quoted.l0] at H; by_cases c2 : x3_1 < (a0.size : Int)
   ·rw [if_pos c2] at H; have c2b0 := decide_eq_true c2; clear c2; replace H := zi1 H; obtain ⟨c3b0, H⟩ := H; by_cases c5 : (bt a0 x3_1) = 34
    ·rw [if_pos c5] at H; have c5b0 : ((bt a0 x3_1) == 34) = true := beq_iff_eq.mpr c5; have c5b1 : ((bt a0 x3_1) != 34) = false := bne_eq_false_iff_eq.mpr c5; clear c5; obtain rfl := Option.some.inj H; have p4 : (0 ≤ (x3_1 : Int)) = True := zT; have q4 : (x3_1 < (a0.size : Int)) = True := zT; have hx4 := bt_at a0 x3_1; go_wp2; go_ret; exact ⟨zs, zX⟩
    ·rw [if_neg c5] at H; have c5b0 : ((bt a0 x3_1) == 34) = false := beq_eq_false_iff_ne.mpr c5; have c5b1 : ((bt a0 x3_1) != 34) = true := bne_iff_ne.mpr c5; by_cases c6 : (bt a0 x3_1) = 10
     ·rw [if_pos c6] at H; have c6b0 : ((bt a0 x3_1) == 10) = true := beq_iff_eq.mpr c6; have c6b1 : ((bt a0 x3_1) != 10) = false := bne_eq_false_iff_eq.mpr c6; clear c6; obtain rfl := Option.some.inj H; have p4 : (0 ≤ (x3_1 : Int)) = True := zT; have q4 : (x3_1 < (a0.size : Int)) = True := zT; have hx4 := bt_at a0 x3_1; go_wp2; go_ret; exact ⟨zs, zX⟩
     ·rw [if_neg c6] at H; have c6b0 : ((bt a0 x3_1) == 10) = false := beq_eq_false_iff_ne.mpr c6; have c6b1 : ((bt a0 x3_1) != 10) = true := bne_iff_ne.mpr c6; by_cases c7 : (bt a0 x3_1) = 92
      ·rw [if_pos c7] at H; have c7b0 : ((bt a0 x3_1) == 92) = true := beq_iff_eq.mpr c7; have c7b1 : ((bt a0 x3_1) != 92) = false := bne_eq_false_iff_eq.mpr c7; clear c7; by_cases c8 : (wrap64 (x3_1 + 1)) = (a0.size : Int)
       ·rw [if_pos c8] at H; have c8b0 : ((wrap64 (x3_1 + 1)) == (a0.size : Int)) = true := beq_iff_eq.mpr c8; have c8b1 : ((wrap64 (x3_1 + 1)) != (a0.size : Int)) = false := bne_eq_false_iff_eq.mpr c8; clear c8; obtain rfl := Option.some.inj H; have p4 : (0 ≤ (x3_1 : Int)) = True := zT; have q4 : (x3_1 < (a0.size : Int)) = True := zT; have hx4 := bt_at a0 x3_1; go_wp2; go_ret; exact ⟨zs, zX⟩
       ·rw [if_neg c8] at H; have c8b0 : ((wrap64 (x3_1 + 1)) == (a0.size : Int)) = false := beq_eq_false_iff_ne.mpr c8; have c8b1 : ((wrap64 (x3_1 + 1)) != (a0.size : Int)) = true := bne_iff_ne.mpr c8
        obtain ⟨ji9, hji9⟩ : ∃ j_ : Int, (wrap64 (x3_1 + 1)) = j_ := ⟨_, rfl⟩
        replace H : (if 0 ≤ (ji9) then (if (ji9) < (a0.size : Int) then ((strings_IndexByte.f (⟨#[110, 34, 92]⟩ : ByteArray) (bt a0 (ji9))).bind fun t114 => (if t114 < 0 then (some 0) else (token_quoted.l0 k1 a0 (wrap64 ((ji9) + 1))))) else (none)) else (none)) = some r := by first | (rw [hji9] at H; exact H) | (simp only [hji9] at H ⊢; exact H)
        (try rw [hji9] at c8b0)
        (try rw [hji9] at c8b1)
        have hji9w : (IntKind.i64.wrap (x3_1 + 1)) = ji9 := (i64_w _).trans hji9; replace H := zi1 H; obtain ⟨c10b0, H⟩ := H; replace H := zi1 H; obtain ⟨c11b0, H⟩ := H; replace H := zo H; obtain ⟨t114, A13, H⟩ := H; by_cases c14 : t114 < 0
        ·rw [if_pos c14] at H; have c14b0 := decide_eq_true c14; clear c14; obtain rfl := Option.some.inj H; have p4 : (0 ≤ (x3_1 : Int)) = True := zT; have q4 : (x3_1 < (a0.size : Int)) = True := zT; have hx4 := bt_at a0 x3_1; have p12 : (0 ≤ ((ji9) : Int)) = True := zT; have q12 : ((ji9) < (a0.size : Int)) = True := zT; have hx12 := bt_at a0 (ji9)
         go_wp2_with (first | (go_at_call 35; (with_reducible refine (strings_IndexByte.calls (⟨#[110, 34, 92]⟩ : ByteArray) (bt a0 (ji9)) t114 _ A13.out).mono ?_); rintro e w' ⟨rfl, ⟨nd, rfl⟩⟩))
         go_ret; exact ⟨by first | rfl | (simp; done) | (simp only [← hji9] <;> (first | rfl | simp)) | (simp [*]; done), zX⟩
        ·rw [if_neg c14] at H; have c14b0 := decide_eq_false c14; clear c14; have H' := Aside0.mk H; clear H; have p4 : (0 ≤ (x3_1 : Int)) = True := zT; have q4 : (x3_1 < (a0.size : Int)) = True := zT; have hx4 := bt_at a0 x3_1; have p12 : (0 ≤ ((ji9) : Int)) = True := zT; have q12 : ((ji9) < (a0.size : Int)) = True := zT; have hx12 := bt_at a0 (ji9)
         go_wp2_with (first | (go_at_call 35; (with_reducible refine (strings_IndexByte.calls (⟨#[110, 34, 92]⟩ : ByteArray) (bt a0 (ji9)) t114 _ A13.out).mono ?_); rintro e w' ⟨rfl, ⟨nd, rfl⟩⟩))
         go_roundg k1
         case measure => have := HK1.out; omega
         case rel => exact ⟨(wrap64 ((ji9) + 1)), (by first | rfl | (simp; done) | (simp only [← hji9] <;> (first | rfl | simp)) | (simp [*]; done)), H', zk, zX⟩
      ·rw [if_neg c7] at H; have c7b0 : ((bt a0 x3_1) == 92) = false := beq_eq_false_iff_ne.mpr c7; have c7b1 : ((bt a0 x3_1) != 92) = true := bne_iff_ne.mpr c7; have H' := Aside0.mk H; clear H; have p4 : (0 ≤ (x3_1 : Int)) = True := zT; have q4 : (x3_1 < (a0.size : Int)) = True := zT; have hx4 := bt_at a0 x3_1; go_wp2
       go_roundg k1
       case measure => have := HK1.out; omega
       case rel => exact ⟨(wrap64 (x3_1 + 1)), zs, H', zk, zX⟩
   ·rw [if_neg c2] at H; have c2b0 := decide_eq_false c2; clear c2; obtain rfl := Option.some.inj H; go_wp2; go_ret; exact ⟨zs, zX⟩

/-! ### token_isSign: function 93 -/
def token_isSign.f (a0 : ByteArray) : Option (Bool) := if a0.toList = ([33] : List UInt8) then (some true) else (if a0.toList = ([38, 38] : List UInt8) then (some true) else (if a0.toList = ([40] : List UInt8) then (some true) else (if a0.toList = ([41] : List UInt8) then (some true) else (if a0.toList = ([42] : List UInt8) then (some true) else (if a0.toList = ([43] : List UInt8) then (some true) else (if a0.toList = ([44] : List UInt8) then (some true) else (if a0.toList = ([45] : List UInt8) then (some true) else (if a0.toList = ([45, 62] : List UInt8) then (some true) else (if a0.toList = ([46] : List UInt8) then (some true) else (if a0.toList = ([58] : List UInt8) then (some true) else (if a0.toList = ([59] : List UInt8) then (some true) else (if a0.toList = ([60] : List UInt8) then (some true) else (if a0.toList = ([61] : List UInt8) then (some true) else (if a0.toList = ([61, 61] : List UInt8) then (some true) else (if a0.toList = ([61, 62] : List UInt8) then (some true) else (if a0.toList = ([91] : List UInt8) then (some true) else (if a0.toList = ([93] : List UInt8) then (some true) else (if a0.toList = ([123] : List UInt8) then (some true) else (if a0.toList = ([124] : List UInt8) then (some true) else (if a0.toList = ([124, 124] : List UInt8) then (some true) else (if a0.toList = ([125] : List UInt8) then (some true) else (some false))))))))))))))))))))))
set_option maxHeartbeats 8000000 in
set_option maxRecDepth 100000 in
theorem token_isSign.calls (a0 : ByteArray) (r : Bool) (w : World) (h : token_isSign.f a0 = some r) :
  Calls Try.prog 93 #[.string a0] w fun e w' => e = .returned (.bool r) ∧ Drawn0 w w' := by
 have H : (if a0.toList = ([33] : List UInt8) then (some true) else (if a0.toList = ([38, 38] : List UInt8) then (some true) else (if a0.toList = ([40] : List UInt8) then (some true) else (if a0.toList = ([41] : List UInt8) then (some true) else (if a0.toList = ([42] : List UInt8) then (some true) else (if a0.toList = ([43] : List UInt8) then (some true) else (if a0.toList = ([44] : List UInt8) then (some true) else (if a0.toList = ([45] : List UInt8) then (some true) else (if a0.toList = ([45, 62] : List UInt8) then (some true) else (if a0.toList = ([46] : List UInt8) then (some true) else (if a0.toList = ([58] : List UInt8) then (some true) else (if a0.toList = ([59] : List UInt8) then (some true) else (if a0.toList = ([60] : List UInt8) then (some true) else (if a0.toList = ([61] : List UInt8) then (some true) else (if a0.toList = ([61, 61] : List UInt8) then (some true) else (if a0.toList = ([61, 62] : List UInt8) then (some true) else (if a0.toList = ([91] : List UInt8) then (some true) else (if a0.toList = ([93] : List UInt8) then (some true) else (if a0.toList = ([123] : List UInt8) then (some true) else (if a0.toList = ([124] : List UInt8) then (some true) else (if a0.toList = ([124, 124] : List UInt8) then (some true) else (if a0.toList = ([125] : List UInt8) then (some true) else (some false))))))))))))))))))))))) = some r := h; clear h; by_cases c2 : a0.toList = ([33] : List UInt8)
 ·rw [if_pos c2] at H; have c2b0 : (a0.toList == ([33] : List UInt8)) = true := beq_iff_eq.mpr c2; have c2b1 : (a0.toList != ([33] : List UInt8)) = false := bne_eq_false_iff_eq.mpr c2; clear c2; obtain rfl := Option.some.inj H; go_enter Try.func93, Try.ntmps93; go_wp2; go_ret; exact ⟨zs, zX⟩
 ·rw [if_neg c2] at H; have c2b0 : (a0.toList == ([33] : List UInt8)) = false := beq_eq_false_iff_ne.mpr c2; have c2b1 : (a0.toList != ([33] : List UInt8)) = true := bne_iff_ne.mpr c2; by_cases c3 : a0.toList = ([38, 38] : List UInt8)
  ·rw [if_pos c3] at H; have c3b0 : (a0.toList == ([38, 38] : List UInt8)) = true := beq_iff_eq.mpr c3; have c3b1 : (a0.toList != ([38, 38] : List UInt8)) = false := bne_eq_false_iff_eq.mpr c3; clear c3; obtain rfl := Option.some.inj H; go_enter Try.func93, Try.ntmps93; go_wp2; go_ret; exact ⟨zs, zX⟩
  ·rw [if_neg c3] at H; have c3b0 : (a0.toList == ([38, 38] : List UInt8)) = false := beq_eq_false_iff_ne.mpr c3; have c3b1 : (a0.toList != ([38, 38] : List UInt8)) = true := bne_iff_ne.mpr c3; by_cases c4 : a0.toList = ([40] : List UInt8)
   ·rw [if_pos c4] at H; have c4b0 : (a0.toList == ([40] : List UInt8)) = true := beq_iff_eq.mpr c4; have c4b1 : (a0.toList != ([40] : List UInt8)) = false := bne_eq_false_iff_eq.mpr c4; clear c4; obtain rfl := Option.some.inj H; go_enter Try.func93, Try.ntmps93; go_wp2; go_ret; exact ⟨zs, zX⟩
   ·rw [if_neg c4] at H; have c4b0 : (a0.toList == ([40] : List UInt8)) = false := beq_eq_false_iff_ne.mpr c4; have c4b1 : (a0.toList != ([40] : List UInt8)) = true := bne_iff_ne.mpr c4; by_cases c5 : a0.toList = ([41] : List UInt8)
    ·rw [if_pos c5] at H; have c5b0 : (a0.toList == ([41] : List UInt8)) = true := beq_iff_eq.mpr c5; have c5b1 : (a0.toList != ([41] : List UInt8)) = false := bne_eq_false_iff_eq.mpr c5; clear c5; obtain rfl := Option.some.inj H; go_enter Try.func93, Try.ntmps93; go_wp2; go_ret; exact ⟨zs, zX⟩
    ·rw [if_neg c5] at H; have c5b0 : (a0.toList == ([41] : List UInt8)) = false := beq_eq_false_iff_ne.mpr c5; have c5b1 : (a0.toList != ([41] : List UInt8)) = true := bne_iff_ne.mpr c5; by_cases c6 : a0.toList = ([42] : List UInt8)
     ·rw [if_pos c6] at H; have c6b0 : (a0.toList == ([42] : List UInt8)) = true := beq_iff_eq.mpr c6; have c6b1 : (a0.toList != ([42] : List UInt8)) = false := bne_eq_false_iff_eq.mpr c6; clear c6; obtain rfl := Option.some.inj H; go_enter Try.func93, Try.ntmps93; go_wp2; go_ret; exact ⟨zs, zX⟩
     ·rw [if_neg c6] at H; have c6b0 : (a0.toList == ([42] : List UInt8)) = false := beq_eq_false_iff_ne.mpr c6; have c6b1 : (a0.toList != ([42] : List UInt8)) = true := bne_iff_ne.mpr c6; by_cases c7 : a0.toList = ([43] : List UInt8)
      ·rw [if_pos c7] at H; have c7b0 : (a0.toList == ([43] : List UInt8)) = true := beq_iff_eq.mpr c7; have c7b1 : (a0.toList != ([43] : List UInt8)) = false := bne_eq_false_iff_eq.mpr c7; clear c7; obtain rfl := Option.some.inj H; go_enter Try.func93, Try.ntmps93; go_wp2; go_ret; exact ⟨zs, zX⟩
      ·rw [if_neg c7] at H; have c7b0 : (a0.toList == ([43] : List UInt8)) = false := beq_eq_false_iff_ne.mpr c7; have c7b1 : (a0.toList != ([43] : List UInt8)) = true := bne_iff_ne.mpr c7; by_cases c8 : a0.toList = ([44] : List UInt8)
       ·rw [if_pos c8] at H; have c8b0 : (a0.toList == ([44] : List UInt8)) = true := beq_iff_eq.mpr c8; have c8b1 : (a0.toList != ([44] : List UInt8)) = false := bne_eq_false_iff_eq.mpr c8; clear c8; obtain rfl := Option.some.inj H; go_enter Try.func93, Try.ntmps93; go_wp2; go_ret; exact ⟨zs, zX⟩
       ·rw [if_neg c8] at H; have c8b0 : (a0.toList == ([44] : List UInt8)) = false := beq_eq_false_iff_ne.mpr c8; have c8b1 : (a0.toList != ([44] : List UInt8)) = true := bne_iff_ne.mpr c8; by_cases c9 : a0.toList = ([45] : List UInt8)
        ·rw [if_pos c9] at H; have c9b0 : (a0.toList == ([45] : List UInt8)) = true := beq_iff_eq.mpr c9; have c9b1 : (a0.toList != ([45] : List UInt8)) = false := bne_eq_false_iff_eq.mpr c9; clear c9; obtain rfl := Option.some.inj H; go_enter Try.func93, Try.ntmps93; go_wp2; go_ret; exact ⟨zs, zX⟩
        ·rw [if_neg c9] at H; have c9b0 : (a0.toList == ([45] : List UInt8)) = false := beq_eq_false_iff_ne.mpr c9; have c9b1 : (a0.toList != ([45] : List UInt8)) = true := bne_iff_ne.mpr c9; by_cases c10 : a0.toList = ([45, 62] : List UInt8)
         ·rw [if_pos c10] at H; have c10b0 : (a0.toList == ([45, 62] : List UInt8)) = true := beq_iff_eq.mpr c10; have c10b1 : (a0.toList != ([45, 62] : List UInt8)) = false := bne_eq_false_iff_eq.mpr c10; clear c10; obtain rfl := Option.some.inj H; go_enter Try.func93, Try.ntmps93; go_wp2; go_ret; exact ⟨zs, zX⟩
         ·rw [if_neg c10] at H; have c10b0 : (a0.toList == ([45, 62] : List UInt8)) = false := beq_eq_false_iff_ne.mpr c10; have c10b1 : (a0.toList != ([45, 62] : List UInt8)) = true := bne_iff_ne.mpr c10; by_cases c11 : a0.toList = ([46] : List UInt8)
          ·rw [if_pos c11] at H; have c11b0 : (a0.toList == ([46] : List UInt8)) = true := beq_iff_eq.mpr c11; have c11b1 : (a0.toList != ([46] : List UInt8)) = false := bne_eq_false_iff_eq.mpr c11; clear c11; obtain rfl := Option.some.inj H; go_enter Try.func93, Try.ntmps93; go_wp2; go_ret; exact ⟨zs, zX⟩
          ·rw [if_neg c11] at H; have c11b0 : (a0.toList == ([46] : List UInt8)) = false := beq_eq_false_iff_ne.mpr c11; have c11b1 : (a0.toList != ([46] : List UInt8)) = true := bne_iff_ne.mpr c11; by_cases c12 : a0.toList = ([58] : List UInt8)
           ·rw [if_pos c12] at H; have c12b0 : (a0.toList == ([58] : List UInt8)) = true := beq_iff_eq.mpr c12; have c12b1 : (a0.toList != ([58] : List UInt8)) = false := bne_eq_false_iff_eq.mpr c12; clear c12; obtain rfl := Option.some.inj H; go_enter Try.func93, Try.ntmps93; go_wp2; go_ret; exact ⟨zs, zX⟩
           ·rw [if_neg c12] at H; have c12b0 : (a0.toList == ([58] : List UInt8)) = false := beq_eq_false_iff_ne.mpr c12; have c12b1 : (a0.toList != ([58] : List UInt8)) = true := bne_iff_ne.mpr c12; by_cases c13 : a0.toList = ([59] : List UInt8)
            ·rw [if_pos c13] at H; have c13b0 : (a0.toList == ([59] : List UInt8)) = true := beq_iff_eq.mpr c13; have c13b1 : (a0.toList != ([59] : List UInt8)) = false := bne_eq_false_iff_eq.mpr c13; clear c13; obtain rfl := Option.some.inj H; go_enter Try.func93, Try.ntmps93; go_wp2; go_ret; exact ⟨zs, zX⟩
            ·rw [if_neg c13] at H; have c13b0 : (a0.toList == ([59] : List UInt8)) = false := beq_eq_false_iff_ne.mpr c13; have c13b1 : (a0.toList != ([59] : List UInt8)) = true := bne_iff_ne.mpr c13; by_cases c14 : a0.toList = ([60] : List UInt8)
             ·rw [if_pos c14] at H; have c14b0 : (a0.toList == ([60] : List UInt8)) = true := beq_iff_eq.mpr c14; have c14b1 : (a0.toList != ([60] : List UInt8)) = false := bne_eq_false_iff_eq.mpr c14; clear c14; obtain rfl := Option.some.inj H; go_enter Try.func93, Try.ntmps93; go_wp2; go_ret; exact ⟨zs, zX⟩
             ·rw [if_neg c14] at H; have c14b0 : (a0.toList == ([60] : List UInt8)) = false := beq_eq_false_iff_ne.mpr c14; have c14b1 : (a0.toList != ([60] : List UInt8)) = true := bne_iff_ne.mpr c14; by_cases c15 : a0.toList = ([61] : List UInt8)
              ·rw [if_pos c15] at H; have c15b0 : (a0.toList == ([61] : List UInt8)) = true := beq_iff_eq.mpr c15; have c15b1 : (a0.toList != ([61] : List UInt8)) = false := bne_eq_false_iff_eq.mpr c15; clear c15; obtain rfl := Option.some.inj H; go_enter Try.func93, Try.ntmps93; go_wp2; go_ret; exact ⟨zs, zX⟩
              ·rw [if_neg c15] at H; have c15b0 : (a0.toList == ([61] : List UInt8)) = false := beq_eq_false_iff_ne.mpr c15; have c15b1 : (a0.toList != ([61] : List UInt8)) = true := bne_iff_ne.mpr c15; by_cases c16 : a0.toList = ([61, 61] : List UInt8)
               ·rw [if_pos c16] at H; have c16b0 : (a0.toList == ([61, 61] : List UInt8)) = true := beq_iff_eq.mpr c16; have c16b1 : (a0.toList != ([61, 61] : List UInt8)) = false := bne_eq_false_iff_eq.mpr c16; clear c16; obtain rfl := Option.some.inj H; go_enter Try.func93, Try.ntmps93; go_wp2; go_ret; exact ⟨zs, zX⟩
               ·rw [if_neg c16] at H; have c16b0 : (a0.toList == ([61, 61] : List UInt8)) = false := beq_eq_false_iff_ne.mpr c16; have c16b1 : (a0.toList != ([61, 61] : List UInt8)) = true := bne_iff_ne.mpr c16; by_cases c17 : a0.toList = ([61, 62] : List UInt8)
                ·rw [if_pos c17] at H; have c17b0 : (a0.toList == ([61, 62] : List UInt8)) = true := beq_iff_eq.mpr c17; have c17b1 : (a0.toList != ([61, 62] : List UInt8)) = false := bne_eq_false_iff_eq.mpr c17; clear c17; obtain rfl := Option.some.inj H; go_enter Try.func93, Try.ntmps93; go_wp2; go_ret; exact ⟨zs, zX⟩
                ·rw [if_neg c17] at H; have c17b0 : (a0.toList == ([61, 62] : List UInt8)) = false := beq_eq_false_iff_ne.mpr c17; have c17b1 : (a0.toList != ([61, 62] : List UInt8)) = true := bne_iff_ne.mpr c17; by_cases c18 : a0.toList = ([91] : List UInt8)
                 ·rw [if_pos c18] at H; have c18b0 : (a0.toList == ([91] : List UInt8)) = true := beq_iff_eq.mpr c18; have c18b1 : (a0.toList != ([91] : List UInt8)) = false := bne_eq_false_iff_eq.mpr c18; clear c18; obtain rfl := Option.some.inj H; go_enter Try.func93, Try.ntmps93; go_wp2; go_ret; exact ⟨zs, zX⟩
                 ·rw [if_neg c18] at H; have c18b0 : (a0.toList == ([91] : List UInt8)) = false := beq_eq_false_iff_ne.mpr c18; have c18b1 : (a0.toList != ([91] : List UInt8)) = true := bne_iff_ne.mpr c18; by_cases c19 : a0.toList = ([93] : List UInt8)
                  ·rw [if_pos c19] at H; have c19b0 : (a0.toList == ([93] : List UInt8)) = true := beq_iff_eq.mpr c19; have c19b1 : (a0.toList != ([93] : List UInt8)) = false := bne_eq_false_iff_eq.mpr c19; clear c19; obtain rfl := Option.some.inj H; go_enter Try.func93, Try.ntmps93; go_wp2; go_ret; exact ⟨zs, zX⟩
                  ·rw [if_neg c19] at H; have c19b0 : (a0.toList == ([93] : List UInt8)) = false := beq_eq_false_iff_ne.mpr c19; have c19b1 : (a0.toList != ([93] : List UInt8)) = true := bne_iff_ne.mpr c19; by_cases c20 : a0.toList = ([123] : List UInt8)
                   ·rw [if_pos c20] at H; have c20b0 : (a0.toList == ([123] : List UInt8)) = true := beq_iff_eq.mpr c20; have c20b1 : (a0.toList != ([123] : List UInt8)) = false := bne_eq_false_iff_eq.mpr c20; clear c20; obtain rfl := Option.some.inj H; go_enter Try.func93, Try.ntmps93; go_wp2; go_ret; exact ⟨zs, zX⟩
                   ·rw [if_neg c20] at H; have c20b0 : (a0.toList == ([123] : List UInt8)) = false := beq_eq_false_iff_ne.mpr c20; have c20b1 : (a0.toList != ([123] : List UInt8)) = true := bne_iff_ne.mpr c20; by_cases c21 : a0.toList = ([124] : List UInt8)
                    ·rw [if_pos c21] at H; have c21b0 : (a0.toList == ([124] : List UInt8)) = true := beq_iff_eq.mpr c21; have c21b1 : (a0.toList != ([124] : List UInt8)) = false := bne_eq_false_iff_eq.mpr c21; clear c21; obtain rfl := Option.some.inj H; go_enter Try.func93, Try.ntmps93; go_wp2; go_ret; exact ⟨zs, zX⟩
                    ·rw [if_neg c21] at H; have c21b0 : (a0.toList == ([124] : List UInt8)) = false := beq_eq_false_iff_ne.mpr c21; have c21b1 : (a0.toList != ([124] : List UInt8)) = true := bne_iff_ne.mpr c21; by_cases c22 : a0.toList = ([124, 124] : List UInt8)
                     ·rw [if_pos c22] at H; have c22b0 : (a0.toList == ([124, 124] : List UInt8)) = true := beq_iff_eq.mpr c22; have c22b1 : (a0.toList != ([124, 124] : List UInt8)) = false := bne_eq_false_iff_eq.mpr c22; clear c22; obtain rfl := Option.some.inj H; go_enter Try.func93, Try.ntmps93; go_wp2; go_ret; exact ⟨zs, zX⟩
                     ·rw [if_neg c22] at H; have c22b0 : (a0.toList == ([124, 124] : List UInt8)) = false := beq_eq_false_iff_ne.mpr c22; have c22b1 : (a0.toList != ([124, 124] : List UInt8)) = true := bne_iff_ne.mpr c22; by_cases c23 : a0.toList = ([125] : List UInt8)
                      ·rw [if_pos c23] at H; have c23b0 : (a0.toList == ([125] : List UInt8)) = true := beq_iff_eq.mpr c23; have c23b1 : (a0.toList != ([125] : List UInt8)) = false := bne_eq_false_iff_eq.mpr c23; clear c23; obtain rfl := Option.some.inj H; go_enter Try.func93, Try.ntmps93; go_wp2; go_ret; exact ⟨zs, zX⟩
                      ·rw [if_neg c23] at H; have c23b0 : (a0.toList == ([125] : List UInt8)) = false := beq_eq_false_iff_ne.mpr c23; have c23b1 : (a0.toList != ([125] : List UInt8)) = true := bne_iff_ne.mpr c23; obtain rfl := Option.some.inj H; go_enter Try.func93, Try.ntmps93; go_wp2; go_ret; exact ⟨zs, zX⟩

end Go.Proofs.Ytahcpappailjgaa.P

namespace Go.Proofs.Ytahcpappailjgaa.P
open Go.RowKit Go.Proofs.YtahcpappailjgaaW.PrintWords Go.Proofs.YtahcpappailjgaaW.PrintLast Go.Proofs.YtahcpappailjgaaW.PrintMore
attribute [local go_sem] max2_int min2_int max_two min_two max_three min_three max_four min_four
set_option linter.unusedVariables false
set_option linter.unusedSimpArgs false

/-! ### token_sign: function 86 -/
def token_sign.l0 : Nat → ByteArray → Int → Option (Int)
 | 0, _, _ => none
 | k + 1, x0, x3 => if x3 > 0 then (if 0 ≤ x3 then (if x3 ≤ (x0.size : Int) then ((token_isSign.f (x0.extract 0 (x3 : Int).toNat)).bind fun t115 => (if t115 = true then (some x3) else (token_sign.l0 k x0 (wrap64 (x3 - 1))))) else (none)) else (none)) else (some 0)
def token_sign.f (k : Nat) (a0 : ByteArray) : Option (Int) := token_sign.l0 k a0 (mn 2 (a0.size : Int))
theorem token_sign.mono_l : ∀ k, (∀ y0 y1, LeO (token_sign.l0 k y0 y1) (token_sign.l0 (k + 1) y0 y1))
 | 0 => fun _ _ r h => by simp [token_sign.l0] at h
 | k + 1 => by
  have ih0 := token_sign.mono_l k
  (intro y0 y1; unfold token_sign.l0); rotate_left
  all_goals repeat' first | (with_reducible exact ih0 _ _) | (with_reducible exact LeO.refl _) | (with_reducible exact LeO.none _) | (with_reducible refine LeO.ite ?_ ?_) | (with_reducible refine LeO.bind ?_ (fun _ => ?_)) | exact ih0 _ _ | exact LeO.none _ | refine LeO.ite ?_ ?_ | refine LeO.bind ?_ (fun _ => ?_)
theorem token_sign.mono : ∀ a0 k, LeO (token_sign.f k a0) (token_sign.f (k + 1) a0) := by
 intro a0 k; have ih0 := token_sign.mono_l k; unfold token_sign.f
 repeat' first
   | (with_reducible exact ih0 _ _)
   | (with_reducible exact LeO.refl _)
   | (with_reducible exact LeO.none _)
   | (with_reducible refine LeO.ite ?_ ?_)
   | (with_reducible refine LeO.bind ?_ (fun _ => ?_))
   | exact ih0 _ _
   | exact LeO.none _
   | refine LeO.ite ?_ ?_
   | refine LeO.bind ?_ (fun _ => ?_)
set_option maxHeartbeats 8000000 in
set_option maxRecDepth 100000 in
theorem token_sign.calls (k : Nat) (a0 : ByteArray) (r : Int) (w : World) (h : token_sign.f k a0 = some r) :
  Calls Try.prog 86 #[.string a0] w fun e w' => e = .returned (.int .i64 r) ∧ Below w.heap.size w w' := by
 have HB := Aside0.mk (Below.refl w.heap.size w); have H : (token_sign.l0 k a0 (mn 2 (a0.size : Int))) = some r := h; clear h
 obtain ⟨ji2, hji2⟩ : ∃ j_ : Int, (mn 2 (a0.size : Int)) = j_ := ⟨_, rfl⟩
 replace H : (token_sign.l0 k a0 ji2) = some r := by first | (rw [hji2] at H; exact H) | (simp only [hji2] at H ⊢; exact H)
 (try (have hji2h : ji2 ≤ 2 := by (rw [← hji2]; unfold mn; (repeat' split) <;> omega)))
 (try (have hji2g : ji2 ≤ 64 := by omega))
 (try (have hji2l : 0 ≤ ji2 := by (rw [← hji2]; unfold mn; (repeat' split) <;> omega)))
 (try (have hji2m : 0 ≤ ji2 := by omega))
 have hji2_ : (if (a0.size : Int) < 2 then (a0.size : Int) else 2) = ji2 := hji2; have H' := Aside0.mk H; clear H; go_enter Try.func86, Try.ntmps86; go_wp2
 go_loopg [3] k (fun kq v3 w' => ∃ (x3_1 : Int), v3 = .int .i64 x3_1 ∧ Aside0 (token_sign.l0 kq a0 x3_1 = some r) ∧ Aside0 (kq ≤ k) ∧ Aside0 (Below w.heap.size w w'))
 case atStart => exact ⟨(ji2), (by first | rfl | (simp; done) | (simp only [← hji2] <;> (first | rfl | simp)) | (simp [*]; done)), H', ⟨Nat.le_refl _⟩, ⟨zb⟩⟩
 case round =>
  clear H'; obtain ⟨x3_1, rfl, HA, HK1, HB⟩ := hrel
  cases gk with
  | zero => exact absurd HA.out (by simp [token_sign.l0])
  | succ k1 =>
   have H := HA.out; clear HA; simp only [token_sign.l0] at H; by_cases c3 : x3_1 > 0
   ·rw [if_pos c3] at H; have c3b0 := decide_eq_true c3; clear c3; replace H := zi2 H; obtain ⟨c4b0, c4b1, H⟩ := H; replace H := zi2 H; obtain ⟨c5b0, c5b1, H⟩ := H; replace H := zo H; obtain ⟨t115, A6, H⟩ := H; by_cases c7 : t115 = true
    ·subst c7; rw [if_pos rfl] at H; obtain rfl := Option.some.inj H
     go_wp2_with (first | ((with_reducible refine zG 93 rfl ?_); refine zg 14 Try.func93 ((token_isSign.calls (a0.extract 0 (x3_1 : Int).toNat) true _ A6.out).mono ?_); rintro e w' ⟨rfl, ⟨nd, rfl⟩⟩; refine ⟨_, rfl, ?_⟩))
     go_ret; exact ⟨by first | rfl | (simp [errW_none, errW_some] <;> rfl) | (simp only [← hji2]; first | rfl | (simp [errW_none, errW_some] <;> rfl)) | (simp [*, errW_none, errW_some] <;> rfl), zb⟩
    ·replace c7 := Bool.eq_false_iff.mpr c7; subst c7; replace H := zf H; have H' := Aside0.mk H; clear H
     go_wp2_with (first | ((with_reducible refine zG 93 rfl ?_); refine zg 14 Try.func93 ((token_isSign.calls (a0.extract 0 (x3_1 : Int).toNat) false _ A6.out).mono ?_); rintro e w' ⟨rfl, ⟨nd, rfl⟩⟩; refine ⟨_, rfl, ?_⟩))
     go_roundg k1
     case measure => have := HK1.out; omega
     case rel => exact ⟨(wrap64 (x3_1 - 1)), zs, H', zk, ⟨zb⟩⟩
   ·rw [if_neg c3] at H; have c3b0 := decide_eq_false c3; clear c3; obtain rfl := Option.some.inj H; go_wp2; go_ret; exact ⟨by first | rfl | (simp [errW_none, errW_some] <;> rfl) | (simp only [← hji2]; first | rfl | (simp [errW_none, errW_some] <;> rfl)) | (simp [*, errW_none, errW_some] <;> rfl), zb⟩

end Go.Proofs.Ytahcpappailjgaa.P

namespace Go.Proofs.Ytahcpappailjgaa.P
open Go.RowKit Go.Proofs.YtahcpappailjgaaW.PrintWords Go.Proofs.YtahcpappailjgaaW.PrintLast Go.Proofs.YtahcpappailjgaaW.PrintMore
attribute [local go_sem] max2_int min2_int max_two min_two max_three min_three max_four min_four
set_option linter.unusedVariables false
set_option linter.unusedSimpArgs false

theorem d0below {w w1 : World} (h : Drawn0 w w1) : Below w.heap.size w w1 := by
 obtain ⟨n, rfl⟩ := h.out; exact pw_below_drewN (Below.refl _ _) n
theorem d0trans {w w1 w2 : World} (h : Drawn0 w w1) (h2 : Drawn0 w1 w2) : Drawn0 w w2 := by
 obtain ⟨n, rfl⟩ := h.out; obtain ⟨m, rfl⟩ := h2.out; exact ⟨n + m, by simp [World.drewN_drewN]⟩
/-- How many bytes at the beginning are of a sort. -/
def token_good.run (p : Int → Option Bool) : List UInt8 → Option Nat
 | [] => some 0
 | c :: r => (p (c.toNat : Int)).bind fun b => if b = true then (token_good.run p r).map (· + 1) else some 0
set_option maxHeartbeats 4000000 in
set_option maxRecDepth 100000 in
theorem token_good.run_ok (g : Nat) (p : Int → Option Bool) (eg : ∀ args w, (callFunc g args).run Try.prog w = .ok (.enter g args) w) (hp : ∀ (c : Int) (b : Bool) (w : World), p c = some b → Calls Try.prog g #[.int .u8 c] w fun e w' => e = .returned (.bool b) ∧ Drawn0 w w')
  (s : ByteArray) (n : Nat) (hs : s.size ≤ 9223372036854775807) (h : token_good.run p s.data.toList = some n) (w : World) :
  Calls Try.prog 79 #[.string s, .func (.func g) #[] #[]] w fun e w' => e = .returned (.int .i64 (n : Int)) ∧ Drawn0 w w' := by
 have hz := Ut.size_data s; have H := Aside0.mk h; have HP := Aside0.mk hp; clear h hp; go_enter Try.func79, Try.ntmps79; go_wp2
 go_loopg [5] s.size (fun kq v5 w' => ∃ i : Nat, v5 = .int .i64 (i : Int) ∧ Aside0 (i + kq = s.size) ∧ Aside0 (∃ m, token_good.run p (s.data.toList.drop i) = some m ∧ i + m = n) ∧ Aside0 (Drawn0 w w'))
 case atStart => exact ⟨0, rfl, ⟨by omega⟩, ⟨n, H.out, by omega⟩, ⟨Drawn0.refl _⟩⟩
 case round =>
  clear H; obtain ⟨i, rfl, HK, HM, HD⟩ := hrel; by_cases hlt : i < s.size
  ·have hl2 : i < s.data.toList.length := (by omega)
   obtain ⟨m, hm, hmn⟩ := HM.out; rw [List.drop_eq_getElem_cons hl2] at hm; simp only [token_good.run] at hm; obtain ⟨b, hb, hm⟩ := Option.bind_eq_some_iff.mp hm
   have hcall := fun w => HP.out _ b w hb
   have hsb : (s[i]'hlt) = s.data.toList[i] := rfl; rw [← hsb] at hcall; have hd1 : decide ((i : Int) < (s.size : Int)) = true := decide_eq_true (by omega); have q0 : (0 ≤ (i : Int)) = True := eq_true (by omega); have q1 : ((i : Int) < (s.size : Int)) = True := eq_true (by omega)
   cases b with
   | true =>
    rw [if_pos rfl] at hm; obtain ⟨m', hm', hmm⟩ := Option.map_eq_some_iff.mp hm; have HM2 := Aside0.mk (show ∃ m, token_good.run p (s.data.toList.drop (i + 1)) = some m ∧ (i + 1) + m = n from ⟨m', hm', by omega⟩); clear hm hm' hmm hb hmn HM hsb
    cases gk with
    | zero => exact absurd hlt (by have := HK.out; omega)
    | succ kq' =>
    go_wp2_with (go_at_fn g; refine (hcall _).mono ?_; rintro e w1 ⟨rfl, hd⟩; have HD2 := Aside0.mk (d0trans HD.out hd); clear hd)
    go_roundg kq'
    case measure => omega
    case rel => exact ⟨i + 1, by go_num, ⟨by have := HK.out; omega⟩, HM2, HD2⟩
   | false =>
    rw [if_neg (by decide)] at hm; injection hm with hm; subst hm; have hin := Aside0.mk (show i = n by omega); clear hb hmn HM hsb
    go_wp2_with (go_at_fn g; refine (hcall _).mono ?_; rintro e w1 ⟨rfl, hd⟩; have HD2 := Aside0.mk (d0trans HD.out hd); clear hd)
    go_ret; exact ⟨by rw [← hin.out]; rfl, HD2.out⟩
  ·obtain ⟨m, hm, hmn⟩ := HM.out; rw [List.drop_of_length_le (by omega)] at hm; simp only [token_good.run, Option.some.injEq] at hm; have hin := Aside0.mk (show i = n by omega); have hd1 : decide ((i : Int) < (s.size : Int)) = false := decide_eq_false (by omega); clear hm hmn HM; go_wp2; go_ret; exact ⟨by rw [← hin.out]; rfl, HD.out⟩
/-- A letter or a digit: what good's own literal says of a byte. -/
def token_good.letdig (c : Int) : Option Bool := (token_isLetter.f c).bind fun b => if b = true then some true else token_isDigit.f c
def token_good.fin (s : ByteArray) (kind n : Int) : Option (Int × ByteArray × Bool) := if 0 ≤ n then (if n ≤ (s.size : Int) then some (kind, s.extract 0 n.toNat, decide (0 < n)) else none) else none
def token_good.f (k : Nat) (a0 : ByteArray) : Option (Int × ByteArray × Bool) :=
 if a0.size ≤ 9223372036854775807 then (if 0 < a0.size then
  (token_isBlank.f (bt a0 0)).bind fun b0 => if b0 = true then (token_good.run token_isBlank.f a0.data.toList).bind fun n => token_good.fin a0 1 n else
  (strings_HasPrefix.f a0 ⟨#[47, 47]⟩).bind fun b1 => if b1 = true then (token_line.f a0).bind fun n => token_good.fin a0 2 n else
  (token_isLetter.f (bt a0 0)).bind fun b2 => if b2 = true then (token_good.run token_good.letdig a0.data.toList).bind fun n => if n ≤ a0.size then (token_isWord.f (a0.extract 0 n)).bind fun b => token_good.fin a0 (if b = true then 4 else 3) n else none else
  (token_isDigit.f (bt a0 0)).bind fun b3 => if b3 = true then (token_good.run token_isDigit.f a0.data.toList).bind fun n => token_good.fin a0 5 n else
  if bt a0 0 = 34 then (token_quoted.f k a0).bind fun n => token_good.fin a0 6 n else (token_sign.f k a0).bind fun n => token_good.fin a0 7 n
 else none) else none
theorem token_good.mono : ∀ a0 k, LeO (token_good.f k a0) (token_good.f (k + 1) a0) := by
 intro a0 k; unfold token_good.f
 split
 ·split
  ·refine LeO.bind (LeO.refl _) (fun b0 => ?_)
   split
   ·exact LeO.refl _
   ·refine LeO.bind (LeO.refl _) (fun b1 => ?_)
    split
    ·exact LeO.refl _
    ·refine LeO.bind (LeO.refl _) (fun b2 => ?_)
     split
     ·exact LeO.refl _
     ·refine LeO.bind (LeO.refl _) (fun b3 => ?_)
      split
      ·exact LeO.refl _
      ·split
       ·exact LeO.bind (token_quoted.mono _ _) (fun _ => LeO.refl _)
       ·exact LeO.bind (token_sign.mono _ _) (fun _ => LeO.refl _)
  ·exact LeO.refl _
 ·exact LeO.refl _
set_option maxHeartbeats 4000000 in
set_option maxRecDepth 100000 in
theorem token_good.letdig_ok (c : Int) (b : Bool) (w : World) (h : token_good.letdig c = some b) : Calls Try.prog 82 #[.int .u8 c] w fun e w' => e = .returned (.bool b) ∧ Drawn0 w w' := by
 unfold token_good.letdig at h; obtain ⟨x, hx, h⟩ := Option.bind_eq_some_iff.mp h; have HX := Aside0.mk hx; clear hx
 cases x with
 | true =>
  rw [if_pos rfl] at h; injection h with h; subst h; go_enter Try.func82, Try.ntmps82
  go_wp2_with (go_at_call 81; refine (token_isLetter.calls _ _ _ HX.out).mono ?_; rintro e w1 ⟨rfl, hd⟩; have HD := Aside0.mk hd; clear hd)
  go_ret; exact ⟨rfl, HD.out⟩
 | false =>
  rw [if_neg (by decide)] at h; have HY := Aside0.mk h; clear h; go_enter Try.func82, Try.ntmps82
  go_wp2_with (first | (go_at_call 81; refine (token_isLetter.calls _ _ _ HX.out).mono ?_; rintro e w1 ⟨rfl, hd⟩; have HD := Aside0.mk hd; clear hd) | (go_at_call 83; refine (token_isDigit.calls _ _ _ HY.out).mono ?_; rintro e w2 ⟨rfl, hd⟩; have HD2 := Aside0.mk (d0trans HD.out hd); clear hd))
  go_ret; exact ⟨rfl, HD2.out⟩
theorem token_good.fin_some {s : ByteArray} {kind n r1 : Int} {r2 : ByteArray} {r3 : Bool} (h : token_good.fin s kind n = some (r1, r2, r3)) : 0 ≤ n ∧ n ≤ (s.size : Int) ∧ r1 = kind ∧ r2 = s.extract 0 n.toNat ∧ r3 = decide (0 < n) := by
 unfold token_good.fin at h; obtain ⟨h0, h⟩ := Ut.ite_some h; obtain ⟨h1, h⟩ := Ut.ite_some h; simp only [Option.some.injEq, Prod.mk.injEq] at h; exact ⟨h0, h1, h.1.symm, h.2.1.symm, h.2.2.symm⟩
theorem token_good.step {w w1 w2 : World} (h : Below w.heap.size w w1) (h2 : Below w1.heap.size w1 w2) : Below w.heap.size w w2 := h.trans (h2.mono h.size)
set_option maxHeartbeats 8000000 in
set_option maxRecDepth 100000 in
theorem token_good.calls (k : Nat) (a0 : ByteArray) (r1 : Int) (r2 : ByteArray) (r3 : Bool) (w : World) (h : token_good.f k a0 = some (r1, r2, r3)) :
  Calls Try.prog 64 #[.string a0] w fun e w' => e = .returned (.tuple #[.agg #[.int .i64 r1, .string r2], .bool r3]) ∧ Below w.heap.size w w' := by
 unfold token_good.f at h; obtain ⟨hz, h⟩ := Ut.ite_some h; obtain ⟨h0, h⟩ := Ut.ite_some h; obtain ⟨b0, hb0, h⟩ := Option.bind_eq_some_iff.mp h; have HZ := Aside0.mk hz; have q0 : ((0 : Int) < (a0.size : Int)) = True := eq_true (by omega); have q00 : (0 < a0.size) = True := eq_true h0
 have hx0 : ∀ h : 0 < a0.size, (((a0[0]'h).toNat : Nat) : Int) = bt a0 0 := fun h => bt_at a0 0 h
 have B0 := Aside0.mk hb0; have hG0 : (w.alloc (.cells #[.int .i64 0, .string ⟨#[]⟩] 59)).heap[w.heap.size]? = some (.cells #[.int .i64 0, .string ⟨#[]⟩] 59 (0, 0)) := blk_new _ _; have G0 := Aside0.mk hG0; have E0 := Aside0.mk (below_alloc (Below.refl w.heap.size w) (.cells #[.int .i64 0, .string ⟨#[]⟩] 59)); clear hb0 hG0 hz; have hgen := hx0; clear hgen
 cases b0 with
 | true =>
  rw [if_pos rfl] at h; obtain ⟨n, hn, h⟩ := Option.bind_eq_some_iff.mp h; have HN := Aside0.mk hn; clear hn; obtain ⟨n0, n1, rfl, rfl, rfl⟩ := token_good.fin_some h; clear h
  have n2 : n ≤ a0.size := (by omega)
  go_enter Try.func64, Try.ntmps64
  go_wp2_with (first | (go_at_call 78; refine (token_isBlank.calls _ _ _ B0.out).mono ?_; rintro e w1 ⟨rfl, hd⟩; have hb := d0below hd; clear hd; have E1 := Aside0.mk (token_good.step E0.out hb); have G1 := Aside0.mk (blk_below G0.out hb); clear hb E0 G0; (try clear d0 d1 e0 e1); have d0 := Lib.frozen_of_heap G1.out 0; have d1 := Lib.frozen_of_heap G1.out 1; have e0 : w1.cell? ⟨w.heap.size, 0, none⟩ = some (.int .i64 0) := Lib.cell_of_heap G1.out 0; have e1 : w1.cell? ⟨w.heap.size, 1, none⟩ = some (.string ⟨#[]⟩) := Lib.cell_of_heap G1.out 1) | (go_at_call 79; refine (token_good.run_ok 78 token_isBlank.f (Go.Proofs.enters_of Try.func78 (by kernel_rfl) rfl) (fun c b w h => token_isBlank.calls c b w h) a0 n HZ.out HN.out _).mono ?_; rintro e w2 ⟨rfl, hd⟩; have hb := d0below hd; clear hd; have E2 := Aside0.mk (token_good.step E1.out hb); have G2 := Aside0.mk (blk_below G1.out hb); clear hb E1 G1; (try clear d0 d1 e0 e1); have d0 := Lib.frozen_of_heap G2.out 0; have d1 := Lib.frozen_of_heap G2.out 1; have e0 : w2.cell? ⟨w.heap.size, 0, none⟩ = some (.int .i64 0) := Lib.cell_of_heap G2.out 0; have e1 : w2.cell? ⟨w.heap.size, 1, none⟩ = some (.string ⟨#[]⟩) := Lib.cell_of_heap G2.out 1))
  refine bodyPost_ret (results_ct rfl _ _ w.heap.size 59 #[.int .i64 1, .string (a0.extract 0 n)] (0, 0) _ rfl (by (with_reducible repeat (first | refine blk_drewN ?_ _ | refine blk_drew ?_)); refine blk_put (cs := #[.int .i64 1, .string ⟨#[]⟩]) ?_ 1 _ rfl; (with_reducible repeat (first | refine blk_drewN ?_ _ | refine blk_drew ?_)); refine blk_put (cs := #[.int .i64 0, .string ⟨#[]⟩]) ?_ 0 _ rfl; (with_reducible repeat (first | refine blk_drewN ?_ _ | refine blk_drew ?_)); exact G2.out) Try.underlying59 rfl (by kernel_rfl)) rfl ?_; exact ⟨by first | rfl | simp, by repeat (first | exact E2.out | apply pw_below_drewN | apply below_drew1 | refine below_set ?_ (Nat.le_refl _))⟩
 | false =>
  rw [if_neg (by decide)] at h; obtain ⟨b1, hb1, h⟩ := Option.bind_eq_some_iff.mp h; have B1 := Aside0.mk hb1; clear hb1
  cases b1 with
  | true =>
   rw [if_pos rfl] at h; obtain ⟨n, hn, h⟩ := Option.bind_eq_some_iff.mp h; have HN := Aside0.mk hn; clear hn; obtain ⟨n0, n1, rfl, rfl, rfl⟩ := token_good.fin_some h; clear h; go_enter Try.func64, Try.ntmps64
   go_wp2_with (first | (go_at_call 78; refine (token_isBlank.calls _ _ _ B0.out).mono ?_; rintro e w1 ⟨rfl, hd⟩; have hb := d0below hd; clear hd; have E1 := Aside0.mk (token_good.step E0.out hb); have G1 := Aside0.mk (blk_below G0.out hb); clear hb E0 G0; (try clear d0 d1 e0 e1); have d0 := Lib.frozen_of_heap G1.out 0; have d1 := Lib.frozen_of_heap G1.out 1; have e0 : w1.cell? ⟨w.heap.size, 0, none⟩ = some (.int .i64 0) := Lib.cell_of_heap G1.out 0; have e1 : w1.cell? ⟨w.heap.size, 1, none⟩ = some (.string ⟨#[]⟩) := Lib.cell_of_heap G1.out 1) | (go_at_call 80; refine (strings_HasPrefix.calls _ _ _ _ B1.out).mono ?_; rintro e w2 ⟨rfl, hd⟩; have hb := d0below hd; clear hd; have E2 := Aside0.mk (token_good.step E1.out hb); have G2 := Aside0.mk (blk_below G1.out hb); clear hb E1 G1; (try clear d0 d1 e0 e1); have d0 := Lib.frozen_of_heap G2.out 0; have d1 := Lib.frozen_of_heap G2.out 1; have e0 : w2.cell? ⟨w.heap.size, 0, none⟩ = some (.int .i64 0) := Lib.cell_of_heap G2.out 0; have e1 : w2.cell? ⟨w.heap.size, 1, none⟩ = some (.string ⟨#[]⟩) := Lib.cell_of_heap G2.out 1) | (go_at_call 65; refine (token_line.calls _ _ _ HN.out).mono ?_; rintro e w3 ⟨rfl, hd⟩; have hb := d0below hd; clear hd; have E3 := Aside0.mk (token_good.step E2.out hb); have G3 := Aside0.mk (blk_below G2.out hb); clear hb E2 G2; (try clear d0 d1 e0 e1); have d0 := Lib.frozen_of_heap G3.out 0; have d1 := Lib.frozen_of_heap G3.out 1; have e0 : w3.cell? ⟨w.heap.size, 0, none⟩ = some (.int .i64 0) := Lib.cell_of_heap G3.out 0; have e1 : w3.cell? ⟨w.heap.size, 1, none⟩ = some (.string ⟨#[]⟩) := Lib.cell_of_heap G3.out 1))
   refine bodyPost_ret (results_ct rfl _ _ w.heap.size 59 #[.int .i64 2, .string (a0.extract 0 n.toNat)] (0, 0) _ rfl (by (with_reducible repeat (first | refine blk_drewN ?_ _ | refine blk_drew ?_)); refine blk_put (cs := #[.int .i64 2, .string ⟨#[]⟩]) ?_ 1 _ rfl; (with_reducible repeat (first | refine blk_drewN ?_ _ | refine blk_drew ?_)); refine blk_put (cs := #[.int .i64 0, .string ⟨#[]⟩]) ?_ 0 _ rfl; (with_reducible repeat (first | refine blk_drewN ?_ _ | refine blk_drew ?_)); exact G3.out) Try.underlying59 rfl (by kernel_rfl)) rfl ?_; exact ⟨by first | rfl | simp, by repeat (first | exact E3.out | apply pw_below_drewN | apply below_drew1 | refine below_set ?_ (Nat.le_refl _))⟩
  | false =>
   rw [if_neg (by decide)] at h; obtain ⟨b2, hb2, h⟩ := Option.bind_eq_some_iff.mp h; have B2 := Aside0.mk hb2; clear hb2
   cases b2 with
   | true =>
    rw [if_pos rfl] at h; obtain ⟨n, hn, h⟩ := Option.bind_eq_some_iff.mp h; have HN := Aside0.mk hn; clear hn; obtain ⟨n2, h⟩ := Ut.ite_some h; obtain ⟨b, hb, h⟩ := Option.bind_eq_some_iff.mp h; have BW := Aside0.mk hb; clear hb
    cases b with
    | true =>
     rw [if_pos rfl] at h; obtain ⟨n0, n1, rfl, rfl, rfl⟩ := token_good.fin_some h; clear h; go_enter Try.func64, Try.ntmps64
     go_wp2_with (first | (go_at_call 78; refine (token_isBlank.calls _ _ _ B0.out).mono ?_; rintro e w1 ⟨rfl, hd⟩; have hb := d0below hd; clear hd; have E1 := Aside0.mk (token_good.step E0.out hb); have G1 := Aside0.mk (blk_below G0.out hb); clear hb E0 G0; (try clear d0 d1 e0 e1); have d0 := Lib.frozen_of_heap G1.out 0; have d1 := Lib.frozen_of_heap G1.out 1; have e0 : w1.cell? ⟨w.heap.size, 0, none⟩ = some (.int .i64 0) := Lib.cell_of_heap G1.out 0; have e1 : w1.cell? ⟨w.heap.size, 1, none⟩ = some (.string ⟨#[]⟩) := Lib.cell_of_heap G1.out 1) | (go_at_call 80; refine (strings_HasPrefix.calls _ _ _ _ B1.out).mono ?_; rintro e w2 ⟨rfl, hd⟩; have hb := d0below hd; clear hd; have E2 := Aside0.mk (token_good.step E1.out hb); have G2 := Aside0.mk (blk_below G1.out hb); clear hb E1 G1; (try clear d0 d1 e0 e1); have d0 := Lib.frozen_of_heap G2.out 0; have d1 := Lib.frozen_of_heap G2.out 1; have e0 : w2.cell? ⟨w.heap.size, 0, none⟩ = some (.int .i64 0) := Lib.cell_of_heap G2.out 0; have e1 : w2.cell? ⟨w.heap.size, 1, none⟩ = some (.string ⟨#[]⟩) := Lib.cell_of_heap G2.out 1) | (go_at_call 81; refine (token_isLetter.calls _ _ _ B2.out).mono ?_; rintro e w3 ⟨rfl, hd⟩; have hb := d0below hd; clear hd; have E3 := Aside0.mk (token_good.step E2.out hb); have G3 := Aside0.mk (blk_below G2.out hb); clear hb E2 G2; (try clear d0 d1 e0 e1); have d0 := Lib.frozen_of_heap G3.out 0; have d1 := Lib.frozen_of_heap G3.out 1; have e0 : w3.cell? ⟨w.heap.size, 0, none⟩ = some (.int .i64 0) := Lib.cell_of_heap G3.out 0; have e1 : w3.cell? ⟨w.heap.size, 1, none⟩ = some (.string ⟨#[]⟩) := Lib.cell_of_heap G3.out 1) | (go_at_call 79; refine (token_good.run_ok 82 token_good.letdig (Go.Proofs.enters_of Try.func82 (by kernel_rfl) rfl) (fun c b w h => token_good.letdig_ok c b w h) a0 n HZ.out HN.out _).mono ?_; rintro e w4 ⟨rfl, hd⟩; have hb := d0below hd; clear hd; have E4 := Aside0.mk (token_good.step E3.out hb); have G4 := Aside0.mk (blk_below G3.out hb); clear hb E3 G3; (try clear d0 d1 e0 e1); have d0 := Lib.frozen_of_heap G4.out 0; have d1 := Lib.frozen_of_heap G4.out 1; have e0 : w4.cell? ⟨w.heap.size, 0, none⟩ = some (.int .i64 0) := Lib.cell_of_heap G4.out 0; have e1 : w4.cell? ⟨w.heap.size, 1, none⟩ = some (.string ⟨#[]⟩) := Lib.cell_of_heap G4.out 1) | (go_at_call 84; refine (token_isWord.calls _ _ _ BW.out).mono ?_; rintro e w5 ⟨rfl, hd⟩; have hb := d0below hd; clear hd; have E5 := Aside0.mk (token_good.step E4.out hb); have G5 := Aside0.mk (blk_below G4.out hb); clear hb E4 G4; (try clear d0 d1 e0 e1); have d0 := Lib.frozen_of_heap G5.out 0; have d1 := Lib.frozen_of_heap G5.out 1; have e0 : w5.cell? ⟨w.heap.size, 0, none⟩ = some (.int .i64 0) := Lib.cell_of_heap G5.out 0; have e1 : w5.cell? ⟨w.heap.size, 1, none⟩ = some (.string ⟨#[]⟩) := Lib.cell_of_heap G5.out 1))
     refine bodyPost_ret (results_ct rfl _ _ w.heap.size 59 #[.int .i64 4, .string (a0.extract 0 n)] (0, 0) _ rfl (by (with_reducible repeat (first | refine blk_drewN ?_ _ | refine blk_drew ?_)); refine blk_put (cs := #[.int .i64 4, .string ⟨#[]⟩]) ?_ 1 _ rfl; (with_reducible repeat (first | refine blk_drewN ?_ _ | refine blk_drew ?_)); refine blk_put (cs := #[.int .i64 0, .string ⟨#[]⟩]) ?_ 0 _ rfl; (with_reducible repeat (first | refine blk_drewN ?_ _ | refine blk_drew ?_)); exact G5.out) Try.underlying59 rfl (by kernel_rfl)) rfl ?_; exact ⟨by first | rfl | simp, by repeat (first | exact E5.out | apply pw_below_drewN | apply below_drew1 | refine below_set ?_ (Nat.le_refl _))⟩
    | false =>
     rw [if_neg (by decide)] at h; obtain ⟨n0, n1, rfl, rfl, rfl⟩ := token_good.fin_some h; clear h; go_enter Try.func64, Try.ntmps64
     go_wp2_with (first | (go_at_call 78; refine (token_isBlank.calls _ _ _ B0.out).mono ?_; rintro e w1 ⟨rfl, hd⟩; have hb := d0below hd; clear hd; have E1 := Aside0.mk (token_good.step E0.out hb); have G1 := Aside0.mk (blk_below G0.out hb); clear hb E0 G0; (try clear d0 d1 e0 e1); have d0 := Lib.frozen_of_heap G1.out 0; have d1 := Lib.frozen_of_heap G1.out 1; have e0 : w1.cell? ⟨w.heap.size, 0, none⟩ = some (.int .i64 0) := Lib.cell_of_heap G1.out 0; have e1 : w1.cell? ⟨w.heap.size, 1, none⟩ = some (.string ⟨#[]⟩) := Lib.cell_of_heap G1.out 1) | (go_at_call 80; refine (strings_HasPrefix.calls _ _ _ _ B1.out).mono ?_; rintro e w2 ⟨rfl, hd⟩; have hb := d0below hd; clear hd; have E2 := Aside0.mk (token_good.step E1.out hb); have G2 := Aside0.mk (blk_below G1.out hb); clear hb E1 G1; (try clear d0 d1 e0 e1); have d0 := Lib.frozen_of_heap G2.out 0; have d1 := Lib.frozen_of_heap G2.out 1; have e0 : w2.cell? ⟨w.heap.size, 0, none⟩ = some (.int .i64 0) := Lib.cell_of_heap G2.out 0; have e1 : w2.cell? ⟨w.heap.size, 1, none⟩ = some (.string ⟨#[]⟩) := Lib.cell_of_heap G2.out 1) | (go_at_call 81; refine (token_isLetter.calls _ _ _ B2.out).mono ?_; rintro e w3 ⟨rfl, hd⟩; have hb := d0below hd; clear hd; have E3 := Aside0.mk (token_good.step E2.out hb); have G3 := Aside0.mk (blk_below G2.out hb); clear hb E2 G2; (try clear d0 d1 e0 e1); have d0 := Lib.frozen_of_heap G3.out 0; have d1 := Lib.frozen_of_heap G3.out 1; have e0 : w3.cell? ⟨w.heap.size, 0, none⟩ = some (.int .i64 0) := Lib.cell_of_heap G3.out 0; have e1 : w3.cell? ⟨w.heap.size, 1, none⟩ = some (.string ⟨#[]⟩) := Lib.cell_of_heap G3.out 1) | (go_at_call 79; refine (token_good.run_ok 82 token_good.letdig (Go.Proofs.enters_of Try.func82 (by kernel_rfl) rfl) (fun c b w h => token_good.letdig_ok c b w h) a0 n HZ.out HN.out _).mono ?_; rintro e w4 ⟨rfl, hd⟩; have hb := d0below hd; clear hd; have E4 := Aside0.mk (token_good.step E3.out hb); have G4 := Aside0.mk (blk_below G3.out hb); clear hb E3 G3; (try clear d0 d1 e0 e1); have d0 := Lib.frozen_of_heap G4.out 0; have d1 := Lib.frozen_of_heap G4.out 1; have e0 : w4.cell? ⟨w.heap.size, 0, none⟩ = some (.int .i64 0) := Lib.cell_of_heap G4.out 0; have e1 : w4.cell? ⟨w.heap.size, 1, none⟩ = some (.string ⟨#[]⟩) := Lib.cell_of_heap G4.out 1) | (go_at_call 84; refine (token_isWord.calls _ _ _ BW.out).mono ?_; rintro e w5 ⟨rfl, hd⟩; have hb := d0below hd; clear hd; have E5 := Aside0.mk (token_good.step E4.out hb); have G5 := Aside0.mk (blk_below G4.out hb); clear hb E4 G4; (try clear d0 d1 e0 e1); have d0 := Lib.frozen_of_heap G5.out 0; have d1 := Lib.frozen_of_heap G5.out 1; have e0 : w5.cell? ⟨w.heap.size, 0, none⟩ = some (.int .i64 0) := Lib.cell_of_heap G5.out 0; have e1 : w5.cell? ⟨w.heap.size, 1, none⟩ = some (.string ⟨#[]⟩) := Lib.cell_of_heap G5.out 1))
     refine bodyPost_ret (results_ct rfl _ _ w.heap.size 59 #[.int .i64 3, .string (a0.extract 0 n)] (0, 0) _ rfl (by (with_reducible repeat (first | refine blk_drewN ?_ _ | refine blk_drew ?_)); refine blk_put (cs := #[.int .i64 3, .string ⟨#[]⟩]) ?_ 1 _ rfl; (with_reducible repeat (first | refine blk_drewN ?_ _ | refine blk_drew ?_)); refine blk_put (cs := #[.int .i64 0, .string ⟨#[]⟩]) ?_ 0 _ rfl; (with_reducible repeat (first | refine blk_drewN ?_ _ | refine blk_drew ?_)); exact G5.out) Try.underlying59 rfl (by kernel_rfl)) rfl ?_; exact ⟨by first | rfl | simp, by repeat (first | exact E5.out | apply pw_below_drewN | apply below_drew1 | refine below_set ?_ (Nat.le_refl _))⟩
   | false =>
    rw [if_neg (by decide)] at h; obtain ⟨b3, hb3, h⟩ := Option.bind_eq_some_iff.mp h; have B3 := Aside0.mk hb3; clear hb3
    cases b3 with
    | true =>
     rw [if_pos rfl] at h; obtain ⟨n, hn, h⟩ := Option.bind_eq_some_iff.mp h; have HN := Aside0.mk hn; clear hn; obtain ⟨n0, n1, rfl, rfl, rfl⟩ := token_good.fin_some h; clear h
     have n2 : n ≤ a0.size := (by omega)
     go_enter Try.func64, Try.ntmps64
     go_wp2_with (first | (go_at_call 78; refine (token_isBlank.calls _ _ _ B0.out).mono ?_; rintro e w1 ⟨rfl, hd⟩; have hb := d0below hd; clear hd; have E1 := Aside0.mk (token_good.step E0.out hb); have G1 := Aside0.mk (blk_below G0.out hb); clear hb E0 G0; (try clear d0 d1 e0 e1); have d0 := Lib.frozen_of_heap G1.out 0; have d1 := Lib.frozen_of_heap G1.out 1; have e0 : w1.cell? ⟨w.heap.size, 0, none⟩ = some (.int .i64 0) := Lib.cell_of_heap G1.out 0; have e1 : w1.cell? ⟨w.heap.size, 1, none⟩ = some (.string ⟨#[]⟩) := Lib.cell_of_heap G1.out 1) | (go_at_call 80; refine (strings_HasPrefix.calls _ _ _ _ B1.out).mono ?_; rintro e w2 ⟨rfl, hd⟩; have hb := d0below hd; clear hd; have E2 := Aside0.mk (token_good.step E1.out hb); have G2 := Aside0.mk (blk_below G1.out hb); clear hb E1 G1; (try clear d0 d1 e0 e1); have d0 := Lib.frozen_of_heap G2.out 0; have d1 := Lib.frozen_of_heap G2.out 1; have e0 : w2.cell? ⟨w.heap.size, 0, none⟩ = some (.int .i64 0) := Lib.cell_of_heap G2.out 0; have e1 : w2.cell? ⟨w.heap.size, 1, none⟩ = some (.string ⟨#[]⟩) := Lib.cell_of_heap G2.out 1) | (go_at_call 81; refine (token_isLetter.calls _ _ _ B2.out).mono ?_; rintro e w3 ⟨rfl, hd⟩; have hb := d0below hd; clear hd; have E3 := Aside0.mk (token_good.step E2.out hb); have G3 := Aside0.mk (blk_below G2.out hb); clear hb E2 G2; (try clear d0 d1 e0 e1); have d0 := Lib.frozen_of_heap G3.out 0; have d1 := Lib.frozen_of_heap G3.out 1; have e0 : w3.cell? ⟨w.heap.size, 0, none⟩ = some (.int .i64 0) := Lib.cell_of_heap G3.out 0; have e1 : w3.cell? ⟨w.heap.size, 1, none⟩ = some (.string ⟨#[]⟩) := Lib.cell_of_heap G3.out 1) | (go_at_call 83; refine (token_isDigit.calls _ _ _ B3.out).mono ?_; rintro e w4 ⟨rfl, hd⟩; have hb := d0below hd; clear hd; have E4 := Aside0.mk (token_good.step E3.out hb); have G4 := Aside0.mk (blk_below G3.out hb); clear hb E3 G3; (try clear d0 d1 e0 e1); have d0 := Lib.frozen_of_heap G4.out 0; have d1 := Lib.frozen_of_heap G4.out 1; have e0 : w4.cell? ⟨w.heap.size, 0, none⟩ = some (.int .i64 0) := Lib.cell_of_heap G4.out 0; have e1 : w4.cell? ⟨w.heap.size, 1, none⟩ = some (.string ⟨#[]⟩) := Lib.cell_of_heap G4.out 1) | (go_at_call 79; refine (token_good.run_ok 83 token_isDigit.f (Go.Proofs.enters_of Try.func83 (by kernel_rfl) rfl) (fun c b w h => token_isDigit.calls c b w h) a0 n HZ.out HN.out _).mono ?_; rintro e w5 ⟨rfl, hd⟩; have hb := d0below hd; clear hd; have E5 := Aside0.mk (token_good.step E4.out hb); have G5 := Aside0.mk (blk_below G4.out hb); clear hb E4 G4; (try clear d0 d1 e0 e1); have d0 := Lib.frozen_of_heap G5.out 0; have d1 := Lib.frozen_of_heap G5.out 1; have e0 : w5.cell? ⟨w.heap.size, 0, none⟩ = some (.int .i64 0) := Lib.cell_of_heap G5.out 0; have e1 : w5.cell? ⟨w.heap.size, 1, none⟩ = some (.string ⟨#[]⟩) := Lib.cell_of_heap G5.out 1))
     refine bodyPost_ret (results_ct rfl _ _ w.heap.size 59 #[.int .i64 5, .string (a0.extract 0 n)] (0, 0) _ rfl (by (with_reducible repeat (first | refine blk_drewN ?_ _ | refine blk_drew ?_)); refine blk_put (cs := #[.int .i64 5, .string ⟨#[]⟩]) ?_ 1 _ rfl; (with_reducible repeat (first | refine blk_drewN ?_ _ | refine blk_drew ?_)); refine blk_put (cs := #[.int .i64 0, .string ⟨#[]⟩]) ?_ 0 _ rfl; (with_reducible repeat (first | refine blk_drewN ?_ _ | refine blk_drew ?_)); exact G5.out) Try.underlying59 rfl (by kernel_rfl)) rfl ?_; exact ⟨by first | rfl | simp, by repeat (first | exact E5.out | apply pw_below_drewN | apply below_drew1 | refine below_set ?_ (Nat.le_refl _))⟩
    | false =>
     rw [if_neg (by decide)] at h; by_cases c : bt a0 0 = 34
     ·rw [if_pos c] at h; have cb : (bt a0 0 == 34) = true := beq_iff_eq.mpr c; obtain ⟨n, hn, h⟩ := Option.bind_eq_some_iff.mp h; have HN := Aside0.mk hn; clear hn c; obtain ⟨n0, n1, rfl, rfl, rfl⟩ := token_good.fin_some h; clear h; go_enter Try.func64, Try.ntmps64
      go_wp2_with (first | (go_at_call 78; refine (token_isBlank.calls _ _ _ B0.out).mono ?_; rintro e w1 ⟨rfl, hd⟩; have hb := d0below hd; clear hd; have E1 := Aside0.mk (token_good.step E0.out hb); have G1 := Aside0.mk (blk_below G0.out hb); clear hb E0 G0; (try clear d0 d1 e0 e1); have d0 := Lib.frozen_of_heap G1.out 0; have d1 := Lib.frozen_of_heap G1.out 1; have e0 : w1.cell? ⟨w.heap.size, 0, none⟩ = some (.int .i64 0) := Lib.cell_of_heap G1.out 0; have e1 : w1.cell? ⟨w.heap.size, 1, none⟩ = some (.string ⟨#[]⟩) := Lib.cell_of_heap G1.out 1) | (go_at_call 80; refine (strings_HasPrefix.calls _ _ _ _ B1.out).mono ?_; rintro e w2 ⟨rfl, hd⟩; have hb := d0below hd; clear hd; have E2 := Aside0.mk (token_good.step E1.out hb); have G2 := Aside0.mk (blk_below G1.out hb); clear hb E1 G1; (try clear d0 d1 e0 e1); have d0 := Lib.frozen_of_heap G2.out 0; have d1 := Lib.frozen_of_heap G2.out 1; have e0 : w2.cell? ⟨w.heap.size, 0, none⟩ = some (.int .i64 0) := Lib.cell_of_heap G2.out 0; have e1 : w2.cell? ⟨w.heap.size, 1, none⟩ = some (.string ⟨#[]⟩) := Lib.cell_of_heap G2.out 1) | (go_at_call 81; refine (token_isLetter.calls _ _ _ B2.out).mono ?_; rintro e w3 ⟨rfl, hd⟩; have hb := d0below hd; clear hd; have E3 := Aside0.mk (token_good.step E2.out hb); have G3 := Aside0.mk (blk_below G2.out hb); clear hb E2 G2; (try clear d0 d1 e0 e1); have d0 := Lib.frozen_of_heap G3.out 0; have d1 := Lib.frozen_of_heap G3.out 1; have e0 : w3.cell? ⟨w.heap.size, 0, none⟩ = some (.int .i64 0) := Lib.cell_of_heap G3.out 0; have e1 : w3.cell? ⟨w.heap.size, 1, none⟩ = some (.string ⟨#[]⟩) := Lib.cell_of_heap G3.out 1) | (go_at_call 83; refine (token_isDigit.calls _ _ _ B3.out).mono ?_; rintro e w4 ⟨rfl, hd⟩; have hb := d0below hd; clear hd; have E4 := Aside0.mk (token_good.step E3.out hb); have G4 := Aside0.mk (blk_below G3.out hb); clear hb E3 G3; (try clear d0 d1 e0 e1); have d0 := Lib.frozen_of_heap G4.out 0; have d1 := Lib.frozen_of_heap G4.out 1; have e0 : w4.cell? ⟨w.heap.size, 0, none⟩ = some (.int .i64 0) := Lib.cell_of_heap G4.out 0; have e1 : w4.cell? ⟨w.heap.size, 1, none⟩ = some (.string ⟨#[]⟩) := Lib.cell_of_heap G4.out 1) | (go_at_call 85; refine (token_quoted.calls _ _ _ _ HN.out).mono ?_; rintro e w5 ⟨rfl, hd⟩; have hb := d0below hd; clear hd; have E5 := Aside0.mk (token_good.step E4.out hb); have G5 := Aside0.mk (blk_below G4.out hb); clear hb E4 G4; (try clear d0 d1 e0 e1); have d0 := Lib.frozen_of_heap G5.out 0; have d1 := Lib.frozen_of_heap G5.out 1; have e0 : w5.cell? ⟨w.heap.size, 0, none⟩ = some (.int .i64 0) := Lib.cell_of_heap G5.out 0; have e1 : w5.cell? ⟨w.heap.size, 1, none⟩ = some (.string ⟨#[]⟩) := Lib.cell_of_heap G5.out 1))
      refine bodyPost_ret (results_ct rfl _ _ w.heap.size 59 #[.int .i64 6, .string (a0.extract 0 n.toNat)] (0, 0) _ rfl (by (with_reducible repeat (first | refine blk_drewN ?_ _ | refine blk_drew ?_)); refine blk_put (cs := #[.int .i64 6, .string ⟨#[]⟩]) ?_ 1 _ rfl; (with_reducible repeat (first | refine blk_drewN ?_ _ | refine blk_drew ?_)); refine blk_put (cs := #[.int .i64 0, .string ⟨#[]⟩]) ?_ 0 _ rfl; (with_reducible repeat (first | refine blk_drewN ?_ _ | refine blk_drew ?_)); exact G5.out) Try.underlying59 rfl (by kernel_rfl)) rfl ?_; exact ⟨by first | rfl | simp, by repeat (first | exact E5.out | apply pw_below_drewN | apply below_drew1 | refine below_set ?_ (Nat.le_refl _))⟩
     ·rw [if_neg c] at h; have cb : (bt a0 0 == 34) = false := beq_eq_false_iff_ne.mpr c; obtain ⟨n, hn, h⟩ := Option.bind_eq_some_iff.mp h; have HN := Aside0.mk hn; clear hn c; obtain ⟨n0, n1, rfl, rfl, rfl⟩ := token_good.fin_some h; clear h; go_enter Try.func64, Try.ntmps64
      go_wp2_with (first | (go_at_call 78; refine (token_isBlank.calls _ _ _ B0.out).mono ?_; rintro e w1 ⟨rfl, hd⟩; have hb := d0below hd; clear hd; have E1 := Aside0.mk (token_good.step E0.out hb); have G1 := Aside0.mk (blk_below G0.out hb); clear hb E0 G0; (try clear d0 d1 e0 e1); have d0 := Lib.frozen_of_heap G1.out 0; have d1 := Lib.frozen_of_heap G1.out 1; have e0 : w1.cell? ⟨w.heap.size, 0, none⟩ = some (.int .i64 0) := Lib.cell_of_heap G1.out 0; have e1 : w1.cell? ⟨w.heap.size, 1, none⟩ = some (.string ⟨#[]⟩) := Lib.cell_of_heap G1.out 1) | (go_at_call 80; refine (strings_HasPrefix.calls _ _ _ _ B1.out).mono ?_; rintro e w2 ⟨rfl, hd⟩; have hb := d0below hd; clear hd; have E2 := Aside0.mk (token_good.step E1.out hb); have G2 := Aside0.mk (blk_below G1.out hb); clear hb E1 G1; (try clear d0 d1 e0 e1); have d0 := Lib.frozen_of_heap G2.out 0; have d1 := Lib.frozen_of_heap G2.out 1; have e0 : w2.cell? ⟨w.heap.size, 0, none⟩ = some (.int .i64 0) := Lib.cell_of_heap G2.out 0; have e1 : w2.cell? ⟨w.heap.size, 1, none⟩ = some (.string ⟨#[]⟩) := Lib.cell_of_heap G2.out 1) | (go_at_call 81; refine (token_isLetter.calls _ _ _ B2.out).mono ?_; rintro e w3 ⟨rfl, hd⟩; have hb := d0below hd; clear hd; have E3 := Aside0.mk (token_good.step E2.out hb); have G3 := Aside0.mk (blk_below G2.out hb); clear hb E2 G2; (try clear d0 d1 e0 e1); have d0 := Lib.frozen_of_heap G3.out 0; have d1 := Lib.frozen_of_heap G3.out 1; have e0 : w3.cell? ⟨w.heap.size, 0, none⟩ = some (.int .i64 0) := Lib.cell_of_heap G3.out 0; have e1 : w3.cell? ⟨w.heap.size, 1, none⟩ = some (.string ⟨#[]⟩) := Lib.cell_of_heap G3.out 1) | (go_at_call 83; refine (token_isDigit.calls _ _ _ B3.out).mono ?_; rintro e w4 ⟨rfl, hd⟩; have hb := d0below hd; clear hd; have E4 := Aside0.mk (token_good.step E3.out hb); have G4 := Aside0.mk (blk_below G3.out hb); clear hb E3 G3; (try clear d0 d1 e0 e1); have d0 := Lib.frozen_of_heap G4.out 0; have d1 := Lib.frozen_of_heap G4.out 1; have e0 : w4.cell? ⟨w.heap.size, 0, none⟩ = some (.int .i64 0) := Lib.cell_of_heap G4.out 0; have e1 : w4.cell? ⟨w.heap.size, 1, none⟩ = some (.string ⟨#[]⟩) := Lib.cell_of_heap G4.out 1) | (go_at_call 86; refine (token_sign.calls _ _ _ _ HN.out).mono ?_; rintro e w5 ⟨rfl, hd⟩; have hb := hd; clear hd; have E5 := Aside0.mk (token_good.step E4.out hb); have G5 := Aside0.mk (blk_below G4.out hb); clear hb E4 G4; (try clear d0 d1 e0 e1); have d0 := Lib.frozen_of_heap G5.out 0; have d1 := Lib.frozen_of_heap G5.out 1; have e0 : w5.cell? ⟨w.heap.size, 0, none⟩ = some (.int .i64 0) := Lib.cell_of_heap G5.out 0; have e1 : w5.cell? ⟨w.heap.size, 1, none⟩ = some (.string ⟨#[]⟩) := Lib.cell_of_heap G5.out 1))
      refine bodyPost_ret (results_ct rfl _ _ w.heap.size 59 #[.int .i64 7, .string (a0.extract 0 n.toNat)] (0, 0) _ rfl (by (with_reducible repeat (first | refine blk_drewN ?_ _ | refine blk_drew ?_)); refine blk_put (cs := #[.int .i64 7, .string ⟨#[]⟩]) ?_ 1 _ rfl; (with_reducible repeat (first | refine blk_drewN ?_ _ | refine blk_drew ?_)); refine blk_put (cs := #[.int .i64 0, .string ⟨#[]⟩]) ?_ 0 _ rfl; (with_reducible repeat (first | refine blk_drewN ?_ _ | refine blk_drew ?_)); exact G5.out) Try.underlying59 rfl (by kernel_rfl)) rfl ?_; exact ⟨by first | rfl | simp, by repeat (first | exact E5.out | apply pw_below_drewN | apply below_drew1 | refine below_set ?_ (Nat.le_refl _))⟩

end Go.Proofs.Ytahcpappailjgaa.P

namespace Go.Proofs.Ytahcpappailjgaa.P
open Go.RowKit Go.Proofs.YtahcpappailjgaaW.PrintWords Go.Proofs.YtahcpappailjgaaW.PrintLast Go.Proofs.YtahcpappailjgaaW.PrintMore
attribute [local go_sem] max2_int min2_int max_two min_two max_three min_three max_four min_four
set_option linter.unusedVariables false
set_option linter.unusedSimpArgs false

/-! ### token_next: function 42 -/
mutual
def token_next.l0 : Nat → ByteArray → Int → Option (Int × ByteArray)
 | 0, _, _ => none
 | k + 1, x0, x5 => if x5 < (x0.size : Int) then (if 0 ≤ x5 then (token_next.j1 k x0 x5 ((bt x0 x5) != 34)) else (none)) else (token_next.j1 k x0 x5 false)
def token_next.j1 : Nat → ByteArray → Int → Bool → Option (Int × ByteArray)
 | 0, _, _, _ => none
 | k + 1, x0, x5, x29 => if x29 = true then (if 0 ≤ x5 then (if x5 ≤ (x0.size : Int) then ((token_good.f k (x0.extract (x5 : Int).toNat x0.size)).bind fun bt122 => (if bt122.2.2 = true then (some (8, x0.extract 0 (x5 : Int).toNat)) else (token_next.l0 k x0 (wrap64 (x5 + 1))))) else (none)) else (none)) else (if 0 ≤ x5 then (if x5 ≤ (x0.size : Int) then (some (8, x0.extract 0 (x5 : Int).toNat)) else (none)) else (none))
end
def token_next.f (k : Nat) (a0 : ByteArray) : Option (Int × ByteArray) := (token_good.f k a0).bind fun bt117 => (if bt117.2.2 = true then (some (bt117.1, bt117.2.1)) else (if 0 < (a0.size : Int) then (if (bt a0 0) = 34 then ((token_line.f a0).bind fun t121 => (if 0 ≤ t121 then (if t121 ≤ (a0.size : Int) then (some (8, a0.extract 0 (t121 : Int).toNat)) else (none)) else (none))) else (token_next.l0 k a0 1)) else (none)))
theorem token_next.mono_l : ∀ k, (∀ y0 y1, LeO (token_next.l0 k y0 y1) (token_next.l0 (k + 1) y0 y1)) ∧ (∀ y0 y1 y2, LeO (token_next.j1 k y0 y1 y2) (token_next.j1 (k + 1) y0 y1 y2))
 | 0 => ⟨fun _ _ r h => by simp [token_next.l0] at h, fun _ _ _ r h => by simp [token_next.j1] at h⟩
 | k + 1 => by
  obtain ⟨ih0, ih1⟩ := token_next.mono_l k; refine ⟨?_, ?_⟩
  (intro y0 y1; unfold token_next.l0); rotate_left
  (intro y0 y1 y2; unfold token_next.j1); rotate_left
  all_goals repeat' first | (with_reducible exact ih0 _ _) | (with_reducible exact ih1 _ _ _) | (with_reducible exact token_good.mono _ _) | (with_reducible exact LeO.refl _) | (with_reducible exact LeO.none _) | (with_reducible refine LeO.ite ?_ ?_) | (with_reducible refine LeO.bind ?_ (fun _ => ?_)) | exact ih0 _ _ | exact ih1 _ _ _ | exact token_good.mono _ _ | exact LeO.none _ | refine LeO.ite ?_ ?_ | refine LeO.bind ?_ (fun _ => ?_)
theorem token_next.mono : ∀ a0 k, LeO (token_next.f k a0) (token_next.f (k + 1) a0) := by
 intro a0 k; obtain ⟨ih0, ih1⟩ := token_next.mono_l k; unfold token_next.f
 repeat' first
   | (with_reducible exact ih0 _ _)
   | (with_reducible exact ih1 _ _ _)
   | (with_reducible exact token_good.mono _ _)
   | (with_reducible exact LeO.refl _)
   | (with_reducible exact LeO.none _)
   | (with_reducible refine LeO.ite ?_ ?_)
   | (with_reducible refine LeO.bind ?_ (fun _ => ?_))
   | exact ih0 _ _
   | exact ih1 _ _ _
   | exact token_good.mono _ _
   | exact LeO.none _
   | refine LeO.ite ?_ ?_
   | refine LeO.bind ?_ (fun _ => ?_)
set_option maxHeartbeats 8000000 in
set_option maxRecDepth 100000 in
theorem token_next.calls (k : Nat) (a0 : ByteArray) (r1 : Int) (r2 : ByteArray) (w : World) (h : token_next.f k a0 = some (r1, r2)) :
  Calls Try.prog 42 #[.string a0] w fun e w' => e = .returned (.agg #[.int .i64 r1, .string r2]) ∧ Below w.heap.size w w' := by
 have hu59 := Try.underlying59; have HB := Aside0.mk (Below.refl w.heap.size w); have H : ((token_good.f k a0).bind fun bt117 => (if bt117.2.2 = true then (some (bt117.1, bt117.2.1)) else (if 0 < (a0.size : Int) then (if (bt a0 0) = 34 then ((token_line.f a0).bind fun t121 => (if 0 ≤ t121 then (if t121 ≤ (a0.size : Int) then (some (8, a0.extract 0 (t121 : Int).toNat)) else (none)) else (none))) else (token_next.l0 k a0 1)) else (none)))) = some (r1, r2) := h; clear h; replace H := Option.bind_eq_some_iff.mp H; obtain ⟨⟨t117, t118, t119⟩, A20, H⟩ := H; replace H : (if t119 = true then (some (t117, t118)) else (if 0 < (a0.size : Int) then (if (bt a0 0) = 34 then ((token_line.f a0).bind fun t121 => (if 0 ≤ t121 then (if t121 ≤ (a0.size : Int) then (some (8, a0.extract 0 (t121 : Int).toNat)) else (none)) else (none))) else (token_next.l0 k a0 1)) else (none))) = some (r1, r2) := H; have A2 := Aside0.mk A20; clear A20; by_cases c3 : t119 = true
 ·subst c3; rw [if_pos rfl] at H; simp only [Option.some.injEq, Prod.mk.injEq] at H; obtain ⟨rfl, rfl⟩ := H; go_enter Try.func42, Try.ntmps42
  go_wp2_with (first | ((with_reducible refine zD 2 rfl ?_); refine zx 2 #[.int .i64 0, .string (⟨#[]⟩ : ByteArray)] 59 ?_; intro gb116 hg w4 hbox hb; have BK116 := Aside0.mk (hbox); have GW116 := (zq hg : Aside0 (w.heap.size ≤ gb116)); have GE116 := GW116; replace HB := (zB hb); clear hb hbox hg) | ((with_reducible refine zG 64 rfl ?_); refine zg 10 Try.func64 ((token_good.calls k a0 t117 t118 true _ A2.out).mono ?_); rintro e w5 ⟨rfl, hb⟩; refine ⟨_, rfl, ?_⟩; replace BK116 := (zK BK116 hb); replace HB := (zB hb); (try clear hb); (try clear hb2); (try clear hk); (try clear hi)) | ((with_reducible refine zD 3 rfl ?_); refine zx 3 #[.int .i64 0, .string (⟨#[]⟩ : ByteArray)] 59 ?_; intro gb120 hg w6 hbox hb; have BK120 := Aside0.mk (hbox); have GW120 := (zq hg : Aside0 (w.heap.size ≤ gb120)); have GE120 := GW120; replace HB := (zB hb); have NB116_120 := (zl hg BK116 : Aside0 (gb116 ≠ gb120)); have NB120_116 := (zl' hg BK116 : Aside0 (gb120 ≠ gb116)); replace BK116 := (zK BK116 hb); clear hb hbox hg; have hnb7 := NB120_116.out; have hnc7 := NB116_120.out; obtain ⟨hcz8_0, hcz8_1⟩ := zc2 BK120; obtain ⟨hfz8_0, hfz8_1⟩ := zz2 BK120; obtain ⟨hcz9_0, hcz9_1⟩ := zc2 BK116; obtain ⟨hfz9_0, hfz9_1⟩ := zz2 BK116))
  refine bodyPost_ret (results_cell_row rfl _ _ gb116 59 #[.int .i64 t117, .string t118] (0, 0) _ rfl zw Try.underlying59 rfl (by kernel_rfl)) rfl ?_; exact ⟨zr, zb⟩
 ·replace c3 := Bool.eq_false_iff.mpr c3; subst c3; replace H := zf H; replace H := zi H; obtain ⟨c10, H⟩ := H; have c10b0 := decide_eq_true c10; have c10b1 : decide (0 < a0.size) = true := decide_eq_true (by omega); clear c10; by_cases c12 : (bt a0 0) = 34
  ·rw [if_pos c12] at H; have c12b0 : ((bt a0 0) == 34) = true := beq_iff_eq.mpr c12; have c12b1 : ((bt a0 0) != 34) = false := bne_eq_false_iff_eq.mpr c12; clear c12; replace H := zo H; obtain ⟨t121, A13, H⟩ := H; replace H := zi2 H; obtain ⟨c14b0, c14b1, H⟩ := H; replace H := zi2 H; obtain ⟨c15b0, c15b1, H⟩ := H; simp only [Option.some.injEq, Prod.mk.injEq] at H; obtain ⟨rfl, rfl⟩ := H; go_enter Try.func42, Try.ntmps42
   go_wp2_with (first | ((with_reducible refine zD 2 rfl ?_); refine zx 2 #[.int .i64 0, .string (⟨#[]⟩ : ByteArray)] 59 ?_; intro gb116 hg w16 hbox hb; have BK116 := Aside0.mk (hbox); have GW116 := (zq hg : Aside0 (w.heap.size ≤ gb116)); have GE116 := GW116; replace HB := (zB hb); clear hb hbox hg) | ((with_reducible refine zG 64 rfl ?_); refine zg 10 Try.func64 ((token_good.calls k a0 t117 t118 false _ A2.out).mono ?_); rintro e w17 ⟨rfl, hb⟩; refine ⟨_, rfl, ?_⟩; replace BK116 := (zK BK116 hb); replace HB := (zB hb); (try clear hb); (try clear hb2); (try clear hk); (try clear hi)) | ((with_reducible refine zD 3 rfl ?_); refine zx 3 #[.int .i64 0, .string (⟨#[]⟩ : ByteArray)] 59 ?_; intro gb120 hg w18 hbox hb; have BK120 := Aside0.mk (hbox); have GW120 := (zq hg : Aside0 (w.heap.size ≤ gb120)); have GE120 := GW120; replace HB := (zB hb); have NB116_120 := (zl hg BK116 : Aside0 (gb116 ≠ gb120)); have NB120_116 := (zl' hg BK116 : Aside0 (gb120 ≠ gb116)); replace BK116 := (zK BK116 hb); clear hb hbox hg; have hnb19 := NB120_116.out; have hnc19 := NB116_120.out; obtain ⟨hcz20_0, hcz20_1⟩ := zc2 BK120; obtain ⟨hfz20_0, hfz20_1⟩ := zz2 BK120; have p11 : 0 ≤ (0 : Int) := (by omega); have q11 : 0 < a0.size := (by have : (0 : Int) < (a0.size : Int) := zt; omega); have hx11 : ∀ h : 0 < a0.size, ((a0[0]'h).toNat : Int) = bt a0 0 := bt_at a0 0; clear p11; have qi11 : (0 < (a0.size : Int)) = True := eq_true (zt); replace q11 := eq_true q11) | ((with_reducible refine zG 65 rfl ?_); refine zg 19 Try.func65 ((token_line.calls a0 t121 _ A13.out).mono ?_); rintro e w' ⟨rfl, ⟨nd, rfl⟩⟩; refine ⟨_, rfl, ?_⟩; obtain ⟨hcz21_0, hcz21_1⟩ := zc2 BK116; obtain ⟨hfz21_0, hfz21_1⟩ := zz2 BK116))
   refine bodyPost_ret (results_cell_row rfl _ _ gb116 59 #[.int .i64 8, .string (a0.extract 0 (t121 : Int).toNat)] (0, 0) _ rfl zw Try.underlying59 rfl (by kernel_rfl)) rfl ?_; exact ⟨zr, zb⟩
  ·rw [if_neg c12] at H; have c12b0 : ((bt a0 0) == 34) = false := beq_eq_false_iff_ne.mpr c12; have c12b1 : ((bt a0 0) != 34) = true := bne_iff_ne.mpr c12; have H' := Aside0.mk H; clear H; go_enter Try.func42, Try.ntmps42
   go_wp2_with (first | ((with_reducible refine zD 2 rfl ?_); refine zx 2 #[.int .i64 0, .string (⟨#[]⟩ : ByteArray)] 59 ?_; intro gb116 hg w22 hbox hb; have BK116 := Aside0.mk (hbox); have GW116 := (zq hg : Aside0 (w.heap.size ≤ gb116)); have GE116 := GW116; replace HB := (zB hb); clear hb hbox hg) | ((with_reducible refine zG 64 rfl ?_); refine zg 10 Try.func64 ((token_good.calls k a0 t117 t118 false _ A2.out).mono ?_); rintro e w23 ⟨rfl, hb⟩; refine ⟨_, rfl, ?_⟩; replace BK116 := (zK BK116 hb); replace HB := (zB hb); (try clear hb); (try clear hb2); (try clear hk); (try clear hi)) | ((with_reducible refine zD 3 rfl ?_); refine zx 3 #[.int .i64 0, .string (⟨#[]⟩ : ByteArray)] 59 ?_; intro gb120 hg w24 hbox hb; have BK120 := Aside0.mk (hbox); have GW120 := (zq hg : Aside0 (w.heap.size ≤ gb120)); have GE120 := GW120; replace HB := (zB hb); have NB116_120 := (zl hg BK116 : Aside0 (gb116 ≠ gb120)); have NB120_116 := (zl' hg BK116 : Aside0 (gb120 ≠ gb116)); replace BK116 := (zK BK116 hb); clear hb hbox hg; have hnb25 := NB120_116.out; have hnc25 := NB116_120.out; obtain ⟨hcz26_0, hcz26_1⟩ := zc2 BK120; obtain ⟨hfz26_0, hfz26_1⟩ := zz2 BK120; have p11 : 0 ≤ (0 : Int) := (by omega); have q11 : 0 < a0.size := (by have : (0 : Int) < (a0.size : Int) := zt; omega); have hx11 : ∀ h : 0 < a0.size, ((a0[0]'h).toNat : Int) = bt a0 0 := bt_at a0 0; clear p11; have qi11 : (0 < (a0.size : Int)) = True := eq_true (zt); replace q11 := eq_true q11))
   go_loopg [5] k (fun kq v5 w' => ∃ (x5_1 : Int), v5 = .int .i64 x5_1 ∧ Aside0 (token_next.l0 kq a0 x5_1 = some (r1, r2)) ∧ Aside0 (kq ≤ k) ∧ Aside0 (w'.heap[gb116]? = some (.cells #[.int .i64 0, .string (⟨#[]⟩ : ByteArray)] 59 (0, 0))) ∧ Aside0 (w'.heap[gb120]? = some (.cells #[.int .i64 t117, .string t118] 59 (0, 0))) ∧ Aside0 (Below w.heap.size w w'))
   case atStart => exact ⟨(1), zs, H', ⟨Nat.le_refl _⟩, ⟨zw⟩, ⟨zw⟩, ⟨zb⟩⟩
   case round =>
    clear H'; obtain ⟨x5_1, rfl, HA, HK1, BK116, BK120, HB⟩ := hrel
    cases gk with
    | zero => exact absurd HA.out (by simp [token_next.l0])
    | succ k1 =>
     have H := HA.out; clear HA; simp only [token_next.l0] at H; have HC27 := Aside0.mk H; clear H
     go_upto_region 7 with (fail)
     go_cut [29] (fun v29 wc => ∃ (kq : Nat) (x29_26 : Bool), v29 = .bool x29_26 ∧ Aside0 (token_next.j1 kq a0 x5_1 x29_26 = some (r1, r2)) ∧ Aside0 (kq ≤ k1) ∧ Aside0 (wc.heap[gb116]? = some (.cells #[.int .i64 0, .string (⟨#[]⟩ : ByteArray)] 59 (0, 0))) ∧ Aside0 (wc.heap[gb120]? = some (.cells #[.int .i64 t117, .string t118] 59 (0, 0))) ∧ Aside0 (Below w.heap.size w wc))
     case first =>
      have H := HC27.out; clear HC27; by_cases c28 : x5_1 < (a0.size : Int)
      ·rw [if_pos c28] at H; have c28b0 := decide_eq_true c28; clear c28
       (first | rw [c28b0] | (simp only [i64_w, i32_w]; rw [c28b0]) | skip)
       replace H := zi1 H; obtain ⟨c29b0, H⟩ := H; have H' := Aside0.mk H; clear H; have p30 : (0 ≤ (x5_1 : Int)) = True := zT; have q30 : (x5_1 < (a0.size : Int)) = True := zT; have hx30 := bt_at a0 x5_1; go_wp2
       go_meet
       case rel => exact ⟨_, (((bt a0 x5_1) != 34)), zs, H', zk, (zA BK116), (zA BK120), ⟨zb⟩⟩
      ·rw [if_neg c28] at H; have c28b0 := decide_eq_false c28; clear c28
       (first | rw [c28b0] | (simp only [i64_w, i32_w]; rw [c28b0]) | skip)
       have H' := Aside0.mk H; clear H; go_wp2
       go_meet
       case rel => exact ⟨_, (false), zs, H', zk, (zA BK116), (zA BK120), ⟨zb⟩⟩
     case rest =>
      clear HC27; obtain ⟨kq, x29_26, rfl, HA, HJ26, BK116, BK120, HB⟩ := hcut
      cases kq with
      | zero => exact absurd HA.out (by simp [token_next.j1])
      | succ kj26 =>
       have H := HA.out; clear HA; simp only [token_next.j1] at H; by_cases c31 : x29_26 = true
       ·subst c31; rw [if_pos rfl] at H; replace H := zi2 H; obtain ⟨c32b0, c32b1, H⟩ := H; replace H := zi2 H; obtain ⟨c33b0, c33b1, H⟩ := H; replace H := Option.bind_eq_some_iff.mp H; obtain ⟨⟨t122, t123, t124⟩, A340, H⟩ := H; replace H : (if t124 = true then (some (8, a0.extract 0 (x5_1 : Int).toNat)) else (token_next.l0 kj26 a0 (wrap64 (x5_1 + 1)))) = some (r1, r2) := H; have A34 := Aside0.mk A340; clear A340; by_cases c35 : t124 = true
        ·subst c35; rw [if_pos rfl] at H; have c36b0 := eq_true (zt : 0 ≤ x5_1); have c37b0 := eq_true (zt : x5_1 ≤ (a0.size : Int)); simp only [Option.some.injEq, Prod.mk.injEq] at H; obtain ⟨rfl, rfl⟩ := H
         go_wp2_with (first | ((with_reducible refine zG 64 rfl ?_); refine zg 34 Try.func64 ((token_good.calls kj26 (a0.extract (x5_1 : Int).toNat a0.size) t122 t123 true _ A34.out).mono ?_); rintro e w38 ⟨rfl, hb⟩; refine ⟨_, rfl, ?_⟩; replace BK116 := (zK BK116 hb); replace BK120 := (zK BK120 hb); replace HB := (zB hb); (try clear hb); (try clear hb2); (try clear hk); (try clear hi)) | ((with_reducible refine zD 6 rfl ?_); refine zx 6 #[.int .i64 0, .string (⟨#[]⟩ : ByteArray)] 59 ?_; intro gb125 hg w39 hbox hb; have BK125 := Aside0.mk (hbox); have GW125 := (zq hg : Aside0 (w.heap.size ≤ gb125)); have GE125 := GW125; replace HB := (zB hb); have NB116_125 := (zl hg BK116 : Aside0 (gb116 ≠ gb125)); have NB125_116 := (zl' hg BK116 : Aside0 (gb125 ≠ gb116)); replace BK116 := (zK BK116 hb); have NB120_125 := (zl hg BK120 : Aside0 (gb120 ≠ gb125)); have NB125_120 := (zl' hg BK120 : Aside0 (gb125 ≠ gb120)); replace BK120 := (zK BK120 hb); clear hb hbox hg; have hnb40 := NB125_116.out; have hnc40 := NB116_125.out; have hnb41 := NB125_120.out; have hnc41 := NB120_125.out; obtain ⟨hcz42_0, hcz42_1⟩ := zc2 BK125; obtain ⟨hfz42_0, hfz42_1⟩ := zz2 BK125; have hnb43 := NB116_120.out; have hnc43 := NB120_116.out; obtain ⟨hcz44_0, hcz44_1⟩ := zc2 BK116; obtain ⟨hfz44_0, hfz44_1⟩ := zz2 BK116))
         refine bodyPost_ret (results_cell_row rfl _ _ gb116 59 #[.int .i64 8, .string (a0.extract 0 (x5_1 : Int).toNat)] (0, 0) _ rfl zw Try.underlying59 rfl (by kernel_rfl)) rfl ?_; exact ⟨zr, zb⟩
        ·replace c35 := Bool.eq_false_iff.mpr c35; subst c35; replace H := zf H; have H' := Aside0.mk H; clear H
         go_wp2_with (first | ((with_reducible refine zG 64 rfl ?_); refine zg 34 Try.func64 ((token_good.calls kj26 (a0.extract (x5_1 : Int).toNat a0.size) t122 t123 false _ A34.out).mono ?_); rintro e w45 ⟨rfl, hb⟩; refine ⟨_, rfl, ?_⟩; replace BK116 := (zK BK116 hb); replace BK120 := (zK BK120 hb); replace HB := (zB hb); (try clear hb); (try clear hb2); (try clear hk); (try clear hi)) | ((with_reducible refine zD 6 rfl ?_); refine zx 6 #[.int .i64 0, .string (⟨#[]⟩ : ByteArray)] 59 ?_; intro gb125 hg w46 hbox hb; have BK125 := Aside0.mk (hbox); have GW125 := (zq hg : Aside0 (w.heap.size ≤ gb125)); have GE125 := GW125; replace HB := (zB hb); have NB116_125 := (zl hg BK116 : Aside0 (gb116 ≠ gb125)); have NB125_116 := (zl' hg BK116 : Aside0 (gb125 ≠ gb116)); replace BK116 := (zK BK116 hb); have NB120_125 := (zl hg BK120 : Aside0 (gb120 ≠ gb125)); have NB125_120 := (zl' hg BK120 : Aside0 (gb125 ≠ gb120)); replace BK120 := (zK BK120 hb); clear hb hbox hg; have hnb47 := NB125_116.out; have hnc47 := NB116_125.out; have hnb48 := NB125_120.out; have hnc48 := NB120_125.out; obtain ⟨hcz49_0, hcz49_1⟩ := zc2 BK125; obtain ⟨hfz49_0, hfz49_1⟩ := zz2 BK125))
         go_roundg kj26
         case measure => have := HK1.out; have := HJ26.out; omega
         case rel => exact ⟨(wrap64 (x5_1 + 1)), zs, H', ⟨by have := HK1.out; have := HJ26.out; omega⟩, ⟨zw⟩, ⟨zw⟩, ⟨zb⟩⟩
       ·replace c31 := Bool.eq_false_iff.mpr c31; subst c31; replace H := zf H; replace H := zi2 H; obtain ⟨c50b0, c50b1, H⟩ := H; replace H := zi2 H; obtain ⟨c51b0, c51b1, H⟩ := H; simp only [Option.some.injEq, Prod.mk.injEq] at H; obtain ⟨rfl, rfl⟩ := H; have hnb52 := NB116_120.out; have hnc52 := NB120_116.out; obtain ⟨hcz53_0, hcz53_1⟩ := zc2 BK116; obtain ⟨hfz53_0, hfz53_1⟩ := zz2 BK116; go_wp2; refine bodyPost_ret (results_cell_row rfl _ _ gb116 59 #[.int .i64 8, .string (a0.extract 0 (x5_1 : Int).toNat)] (0, 0) _ rfl zw Try.underlying59 rfl (by kernel_rfl)) rfl ?_; exact ⟨zr, zb⟩

/-! ### token_Lex: function 26 -/
def token_Lex.l0 : Nat → ByteArray → List (S59) → Option ((List (S59)) × Int)
 | 0, _, _ => none
 | k + 1, x0, x4 => if x0.toList = ([] : List UInt8) then (some (x4, 0)) else ((token_next.f k x0).bind fun bt126 => (if 0 ≤ (bt126.2.size : Int) then (if (bt126.2.size : Int) ≤ (x0.size : Int) then (if x4.length < 5864062014805 then (token_Lex.l0 k (x0.extract ((bt126.2.size : Int) : Int).toNat x0.size) (x4 ++ [(⟨bt126.1, bt126.2⟩ : S59)])) else (none)) else (none)) else (none)))
def token_Lex.f (k : Nat) (a0 : ByteArray) : Option ((List (S59)) × Int) := if (a0.size : Int) > 20000 then (some (([] : List (S59)), 3)) else (token_Lex.l0 k a0 ([] : List (S59)))
theorem token_Lex.mono_l : ∀ k, (∀ y0 y1, LeO (token_Lex.l0 k y0 y1) (token_Lex.l0 (k + 1) y0 y1))
 | 0 => fun _ _ r h => by simp [token_Lex.l0] at h
 | k + 1 => by
  have ih0 := token_Lex.mono_l k
  (intro y0 y1; unfold token_Lex.l0); rotate_left
  all_goals repeat' first | (with_reducible exact ih0 _ _) | (with_reducible exact token_next.mono _ _) | (with_reducible exact LeO.refl _) | (with_reducible exact LeO.none _) | (with_reducible refine LeO.ite ?_ ?_) | (with_reducible refine LeO.bind ?_ (fun _ => ?_)) | exact ih0 _ _ | exact token_next.mono _ _ | exact LeO.none _ | refine LeO.ite ?_ ?_ | refine LeO.bind ?_ (fun _ => ?_)
theorem token_Lex.mono : ∀ a0 k, LeO (token_Lex.f k a0) (token_Lex.f (k + 1) a0) := by
 intro a0 k; have ih0 := token_Lex.mono_l k; unfold token_Lex.f
 repeat' first
   | (with_reducible exact ih0 _ _)
   | (with_reducible exact token_next.mono _ _)
   | (with_reducible exact LeO.refl _)
   | (with_reducible exact LeO.none _)
   | (with_reducible refine LeO.ite ?_ ?_)
   | (with_reducible refine LeO.bind ?_ (fun _ => ?_))
   | exact ih0 _ _
   | exact token_next.mono _ _
   | exact LeO.none _
   | refine LeO.ite ?_ ?_
   | refine LeO.bind ?_ (fun _ => ?_)
set_option maxHeartbeats 8000000 in
set_option maxRecDepth 100000 in
theorem token_Lex.calls (k : Nat) (a0 : ByteArray) (r1 : List (S59)) (r2 : Int) (w : World) (h : token_Lex.f k a0 = some (r1, r2)) :
  Calls Try.prog 26 #[.string a0] w fun e w' => ∃ v0_ : Value, e = .returned (.tuple #[v0_, .int .i64 r2]) ∧ Kd.R k59 59 w' w.heap.size (fun _ => True) v0_ r1 ∧ Below w.heap.size w w' := by
 have hu59 := Try.underlying59; have HB := Aside0.mk (Below.refl w.heap.size w); have H : (if (a0.size : Int) > 20000 then (some (([] : List (S59)), 3)) else (token_Lex.l0 k a0 ([] : List (S59)))) = some (r1, r2) := h; clear h; by_cases c2 : (a0.size : Int) > 20000
 ·rw [if_pos c2] at H; have c2b0 := decide_eq_true c2; have c2b1 : decide (20000 < a0.size) = true := decide_eq_true (by omega); clear c2; simp only [Option.some.injEq, Prod.mk.injEq] at H; obtain ⟨rfl, rfl⟩ := H; go_enter Try.func26, Try.ntmps26; go_wp2
  go_ret2
  exact ⟨_, zr, by first | exact Kd.R_nil _ _ _ _ _ | exact Kd.N_nil _ _ _ _ _ | exact Kd.V_nil _ _ _ _ _ | exact Kd.Q_nil _ _ _ _ _ | exact Kd.S_nil _ _ _ _ _, zb⟩
 ·rw [if_neg c2] at H; have c2b0 := decide_eq_false c2; have c2b1 : decide (20000 < a0.size) = false := decide_eq_false (by omega); clear c2; have H' := Aside0.mk H; clear H; go_enter Try.func26, Try.ntmps26; go_wp2
  go_loopg [0, 4] k (fun kq v0 v4 w' => ∃ (x0_1 : ByteArray) (x4_1 : List (S59)), v0 = .string x0_1 ∧ Aside0 (token_Lex.l0 kq x0_1 x4_1 = some (r1, r2)) ∧ Aside0 (kq ≤ k) ∧ Aside0 (Kd.R k59 59 w' w.heap.size (fun _ => True) v4 x4_1) ∧ Aside0 (Below w.heap.size w w'))
  case atStart => exact ⟨(a0), (([] : List (S59))), zs, H', ⟨Nat.le_refl _⟩, ⟨by first | exact Kd.R_nil _ _ _ _ _ | exact Kd.N_nil _ _ _ _ _ | exact Kd.V_nil _ _ _ _ _ | exact Kd.Q_nil _ _ _ _ _ | exact Kd.S_nil _ _ _ _ _⟩, ⟨zb⟩⟩
  case round =>
   clear H'; obtain ⟨x0_1, x4_1, rfl, HA, HK1, HO_4, HB⟩ := hrel
   cases gk with
   | zero => exact absurd HA.out (by simp [token_Lex.l0])
   | succ k1 =>
    have H := HA.out; clear HA; simp only [token_Lex.l0] at H; by_cases c3 : x0_1.toList = ([] : List UInt8)
    ·rw [if_pos c3] at H; have c3b0 : (x0_1.toList == ([] : List UInt8)) = true := beq_iff_eq.mpr c3; have c3b1 : (x0_1.toList != ([] : List UInt8)) = false := bne_eq_false_iff_eq.mpr c3; clear c3; simp only [Option.some.injEq, Prod.mk.injEq] at H; obtain ⟨rfl, rfl⟩ := H; go_wp2
     go_ret2
     exact ⟨_, zr, by (with_reducible repeat (first | apply Kd.R_alloc | apply Kd.R_drewN | apply Kd.R_drew)); exact HO_4.out, zb⟩
    ·rw [if_neg c3] at H; have c3b0 : (x0_1.toList == ([] : List UInt8)) = false := beq_eq_false_iff_ne.mpr c3; have c3b1 : (x0_1.toList != ([] : List UInt8)) = true := bne_iff_ne.mpr c3; replace H := Option.bind_eq_some_iff.mp H; obtain ⟨⟨t126, t127⟩, A40, H⟩ := H; replace H : (if 0 ≤ (t127.size : Int) then (if (t127.size : Int) ≤ (x0_1.size : Int) then (if x4_1.length < 5864062014805 then (token_Lex.l0 k1 (x0_1.extract ((t127.size : Int) : Int).toNat x0_1.size) (x4_1 ++ [(⟨t126, t127⟩ : S59)])) else (none)) else (none)) else (none)) = some (r1, r2) := H; have A4 := Aside0.mk A40; clear A40; replace H := zi2 H; obtain ⟨c5b0, c5b1, H⟩ := H; replace H := zi2 H; obtain ⟨c6b0, c6b1, H⟩ := H; replace H := zi H; obtain ⟨c7, H⟩ := H; have LMc7 := Aside0.mk c7; clear c7
     obtain ⟨y129, hy129⟩ : ∃ y_ : List (S59), y_ = (x4_1 ++ [(⟨t126, t127⟩ : S59)]) := ⟨_, rfl⟩
     replace H : (token_Lex.l0 k1 (x0_1.extract ((t127.size : Int) : Int).toNat x0_1.size) y129) = some (r1, r2) := by first | (rw [hy129]; with_reducible exact H) | (have H2_ := (Option.bind_some _ _).symm.trans H; rw [hy129]; with_reducible exact H2_) | (have H2_ := (Option.bind_some _ _).symm.trans H; with_reducible exact H2_) | with_reducible exact H | (rw [hy129]; exact H) | exact H
     have Ny129 := Aside0.mk hy129; clear hy129; have H' := Aside0.mk H; clear H
     go_wp2_with (first | ((with_reducible refine zG 42 rfl ?_); refine zg 12 Try.func42 ((token_next.calls k1 x0_1 t126 t127 _ A4.out).mono ?_); rintro e w8 ⟨rfl, hb⟩; refine ⟨_, rfl, ?_⟩; replace HO_4 := (zRb HO_4 hb); replace HB := (zB hb); (try clear hb); (try clear hb2); (try clear hk); (try clear hi)) | ((with_reducible refine zD 5 rfl ?_); refine zx 5 #[.int .i64 0, .string (⟨#[]⟩ : ByteArray)] 59 ?_; intro gb128 hg w9 hbox hb; replace HO_4 := Aside0.mk (Kd.R_below (Kd.R_elderB (zR HO_4) gb128 (Nat.le_of_eq hg.symm)) hb); have BK128 := Aside0.mk (hbox); have GW128 := (zq hg : Aside0 (w.heap.size ≤ gb128)); have GE128 := GW128; replace HB := (zB hb); clear hb hbox hg; obtain ⟨hcz10_0, hcz10_1⟩ := zc2 BK128; obtain ⟨hfz10_0, hfz10_1⟩ := zz2 BK128) | ((with_reducible refine gate_builtin (b := .append) (xs := #[.tmp 18, .tmp 20]) rfl ?_); at_builtin; refine Kd.R_append k59 (w0 := w) w.heap.size rfl (.tmp 18) (.tmp 20) 22 59 (.agg #[(.int .i64 0), (.string ⟨#[]⟩)]) 24 rfl Try.underlying22 info59 rfl (by decide) (by omega) u4 x4_1 (⟨t126, t127⟩ : S59) [.int .i64 t126, .string t127] (fun k_ => k_ ≠ gb128) (fun _ => False) rfl (by first | (go_simp; done) | (go_simp; rfl)) ?aP (fun _ hk => hk.elim) ?aF ?aO ?aB ?aS ?aL ?_; (case aP => exact k59_mkM _ _ _ (⟨t126, t127⟩ : S59)); (case aB => exact zb); (case aF => exact (fun k_ hk => Kd.freshB (g := gb128) (o := .cells #[.int .i64 t126, .string t127] 59 (0, 0)) zw k_ hk)); (case aO => exact (by (with_reducible repeat (first | apply Kd.R_alloc | apply Kd.R_drewN | apply Kd.R_drew)); exact Kd.R_mono (Kd.R_far (p := ⟨gb128, 1, none⟩) (Kd.R_far (p := ⟨gb128, 0, none⟩) (Kd.R_mono HO_4.out (fun k_ hk => (⟨hk, hk.2⟩ : _ ∧ k_ ≠ gb128))) (fun _ hk => hk.2) (.int .i64 t126)) (fun _ hk => hk.2) (.string t127)) (fun _ hk => hk.1.2))); (case aS => exact (below_size zb)); (case aL => have := LMc7.out; omega); intro v130 w11 ho hb hg hat; rw [← Ny129.out] at ho; replace BK128 := Aside0.mk (blk_grown (g := gb128) (o := .cells #[.int .i64 t126, .string t127] 59 (0, 0)) zw hg (Kd.R_away HO_4.out (fun _ hk => hk.2))); replace HB := Aside0.mk (hb); have HO131 := Aside0.mk (ho); clear HO_4; clear ho hb hg hat))
     go_roundg k1
     case measure => have := HK1.out; omega
     case rel => exact ⟨(x0_1.extract ((t127.size : Int) : Int).toNat x0_1.size), (y129), zs, H', zk, ⟨by (with_reducible repeat (first | apply Kd.R_alloc | apply Kd.R_drewN | apply Kd.R_drew)); exact Kd.R_mono HO131.out (fun _ hk => trivial)⟩, ⟨zb⟩⟩

/-! ### rope_spans: function 87 -/
def rope_spans.l0 : Nat → Int → Int → List (S39) → Int → Int → Option (Int)
 | 0, _, _, _, _, _ => none
 | k + 1, x0, x5, x11, x12, x13 => if x13 < x12 then (if 0 ≤ x13 then (if x13 < (x11.length : Int) then (if ((rd_T39 x11 x13).f0) < x5 then (some 2) else (if ((rd_T39 x11 x13).f1) < ((rd_T39 x11 x13).f0) then (some 2) else (if ((rd_T39 x11 x13).f1) > x0 then (some 2) else (rope_spans.l0 k x0 ((rd_T39 x11 x13).f1) x11 x12 (wrap64 (x13 + 1)))))) else (none)) else (none)) else (some 0)
def rope_spans.f (k : Nat) (a0 : Int) (l1 : List (S39)) : Option (Int) := if (l1.length : Int) > 100 then (some 3) else (rope_spans.l0 k a0 0 l1 (l1.length : Int) 0)
theorem rope_spans.mono_l : ∀ k, (∀ y0 y1 y2 y3 y4, LeO (rope_spans.l0 k y0 y1 y2 y3 y4) (rope_spans.l0 (k + 1) y0 y1 y2 y3 y4))
 | 0 => fun _ _ _ _ _ r h => by simp [rope_spans.l0] at h
 | k + 1 => by
  have ih0 := rope_spans.mono_l k
  (intro y0 y1 y2 y3 y4; unfold rope_spans.l0); rotate_left
  all_goals repeat' first | (with_reducible exact ih0 _ _ _ _ _) | (with_reducible exact LeO.refl _) | (with_reducible exact LeO.none _) | (with_reducible refine LeO.ite ?_ ?_) | (with_reducible refine LeO.bind ?_ (fun _ => ?_)) | exact ih0 _ _ _ _ _ | exact LeO.none _ | refine LeO.ite ?_ ?_ | refine LeO.bind ?_ (fun _ => ?_)
theorem rope_spans.mono : ∀ a0 a1 k, LeO (rope_spans.f k a0 a1) (rope_spans.f (k + 1) a0 a1) := by
 intro a0 a1 k; have ih0 := rope_spans.mono_l k; unfold rope_spans.f
 repeat' first
   | (with_reducible exact ih0 _ _ _ _ _)
   | (with_reducible exact LeO.refl _)
   | (with_reducible exact LeO.none _)
   | (with_reducible refine LeO.ite ?_ ?_)
   | (with_reducible refine LeO.bind ?_ (fun _ => ?_))
   | exact ih0 _ _ _ _ _
   | exact LeO.none _
   | refine LeO.ite ?_ ?_
   | refine LeO.bind ?_ (fun _ => ?_)
set_option maxHeartbeats 8000000 in
set_option maxRecDepth 100000 in
theorem rope_spans.calls (k : Nat) (a0 : Int) (A1 : Option Addr) (c1 : Nat) (l1 : List (S39)) (r : Int) (w : World) (hr1 : Kd.C k39 w A1 l1.length l1) (hc1 : l1.length ≤ c1) (h : rope_spans.f k a0 l1 = some r) :
  Calls Try.prog 87 #[.int .i64 a0, .slice A1 l1.length c1] w fun e w' => e = .returned (.int .i64 r) ∧ Below w.heap.size w w' := by
 have hu39 := Try.underlying39; have HR1 := Aside0.mk hr1; have HC1 := Aside0.mk hc1; clear hr1 hc1; have HB := Aside0.mk (Below.refl w.heap.size w); have H : (if (l1.length : Int) > 100 then (some 3) else (rope_spans.l0 k a0 0 l1 (l1.length : Int) 0)) = some r := h; clear h; by_cases c3 : (l1.length : Int) > 100
 ·rw [if_pos c3] at H; have c3b0 := decide_eq_true c3; have c3b1 : decide (100 < l1.length) = true := decide_eq_true (by omega); clear c3; obtain rfl := Option.some.inj H; go_enter Try.func87, Try.ntmps87; go_wp2; go_ret; exact ⟨zr, zb⟩
 ·rw [if_neg c3] at H; have c3b0 := decide_eq_false c3; have c3b1 : decide (100 < l1.length) = false := decide_eq_false (by omega); clear c3; have H' := Aside0.mk H; clear H; go_enter Try.func87, Try.ntmps87; go_wp2
  go_loopg [5, 13] k (fun kq v5 v13 w' => ∃ (x5_1 : Int) (x13_1 : Int), v5 = .int .i64 x5_1 ∧ v13 = .int .i64 x13_1 ∧ Aside0 (rope_spans.l0 kq a0 x5_1 l1 (l1.length : Int) x13_1 = some r) ∧ Aside0 (kq ≤ k) ∧ Aside0 (Below w.heap.size w w'))
  case atStart => exact ⟨(0), (0), zs, zs, H', ⟨Nat.le_refl _⟩, ⟨zb⟩⟩
  case round =>
   clear H'; obtain ⟨x5_1, x13_1, rfl, rfl, HA, HK1, HB⟩ := hrel
   cases gk with
   | zero => exact absurd HA.out (by simp [rope_spans.l0])
   | succ k1 =>
    have H := HA.out; clear HA; simp only [rope_spans.l0] at H; by_cases c4 : x13_1 < (l1.length : Int)
    ·rw [if_pos c4] at H; have c4b0 := decide_eq_true c4; clear c4; replace H := zi1 H; obtain ⟨c5b0, H⟩ := H; replace H := zi1 H; obtain ⟨c6b0, H⟩ := H; by_cases c7 : ((rd_T39 l1 x13_1).f0) < x5_1
     ·rw [if_pos c7] at H; have c7b0 := decide_eq_true c7; clear c7; obtain rfl := Option.some.inj H; have p132 : 0 ≤ (x13_1 : Int) := zt; have q132 : x13_1 < (l1.length : Int) := zt; obtain ⟨ad132, e132, hx132_0, hx132_1, hx132_2⟩ := at_T39 HR1.out x13_1 p132 q132
      cases e132
      replace hx132_0 := zh HB hx132_0; replace hx132_1 := zh HB hx132_1; replace hx132_2 := zh HB hx132_2; replace p132 := eq_true p132; replace q132 := eq_true q132
      go_wp2_with (first | ((with_reducible refine zD 7 rfl ?_); refine zx 7 #[.int .i64 0, .int .i64 0, .string (⟨#[]⟩ : ByteArray)] 39 ?_; intro gb133 hg w8 hbox hb; have BK133 := Aside0.mk (hbox); have GW133 := (zq hg : Aside0 (w.heap.size ≤ gb133)); have GE133 := GW133; replace HB := (zB hb); clear hb hbox hg; obtain ⟨hcz9_0, hcz9_1, hcz9_2⟩ := zc3 BK133; obtain ⟨hfz9_0, hfz9_1, hfz9_2⟩ := zz3 BK133))
      go_ret; exact ⟨zr, zb⟩
     ·rw [if_neg c7] at H; have c7b0 := decide_eq_false c7; clear c7; by_cases c10 : ((rd_T39 l1 x13_1).f1) < ((rd_T39 l1 x13_1).f0)
      ·rw [if_pos c10] at H; have c10b0 := decide_eq_true c10; clear c10; obtain rfl := Option.some.inj H; have p132 : 0 ≤ (x13_1 : Int) := zt; have q132 : x13_1 < (l1.length : Int) := zt; obtain ⟨ad132, e132, hx132_0, hx132_1, hx132_2⟩ := at_T39 HR1.out x13_1 p132 q132
       cases e132
       replace hx132_0 := zh HB hx132_0; replace hx132_1 := zh HB hx132_1; replace hx132_2 := zh HB hx132_2; replace p132 := eq_true p132; replace q132 := eq_true q132
       go_wp2_with (first | ((with_reducible refine zD 7 rfl ?_); refine zx 7 #[.int .i64 0, .int .i64 0, .string (⟨#[]⟩ : ByteArray)] 39 ?_; intro gb133 hg w11 hbox hb; have BK133 := Aside0.mk (hbox); have GW133 := (zq hg : Aside0 (w.heap.size ≤ gb133)); have GE133 := GW133; replace HB := (zB hb); clear hb hbox hg; obtain ⟨hcz12_0, hcz12_1, hcz12_2⟩ := zc3 BK133; obtain ⟨hfz12_0, hfz12_1, hfz12_2⟩ := zz3 BK133))
       go_ret; exact ⟨zr, zb⟩
      ·rw [if_neg c10] at H; have c10b0 := decide_eq_false c10; clear c10; by_cases c13 : ((rd_T39 l1 x13_1).f1) > a0
       ·rw [if_pos c13] at H; have c13b0 := decide_eq_true c13; clear c13; obtain rfl := Option.some.inj H; have p132 : 0 ≤ (x13_1 : Int) := zt; have q132 : x13_1 < (l1.length : Int) := zt; obtain ⟨ad132, e132, hx132_0, hx132_1, hx132_2⟩ := at_T39 HR1.out x13_1 p132 q132
        cases e132
        replace hx132_0 := zh HB hx132_0; replace hx132_1 := zh HB hx132_1; replace hx132_2 := zh HB hx132_2; replace p132 := eq_true p132; replace q132 := eq_true q132
        go_wp2_with (first | ((with_reducible refine zD 7 rfl ?_); refine zx 7 #[.int .i64 0, .int .i64 0, .string (⟨#[]⟩ : ByteArray)] 39 ?_; intro gb133 hg w14 hbox hb; have BK133 := Aside0.mk (hbox); have GW133 := (zq hg : Aside0 (w.heap.size ≤ gb133)); have GE133 := GW133; replace HB := (zB hb); clear hb hbox hg; obtain ⟨hcz15_0, hcz15_1, hcz15_2⟩ := zc3 BK133; obtain ⟨hfz15_0, hfz15_1, hfz15_2⟩ := zz3 BK133))
        go_ret; exact ⟨zr, zb⟩
       ·rw [if_neg c13] at H; have c13b0 := decide_eq_false c13; clear c13; have H' := Aside0.mk H; clear H; have p132 : 0 ≤ (x13_1 : Int) := zt; have q132 : x13_1 < (l1.length : Int) := zt; obtain ⟨ad132, e132, hx132_0, hx132_1, hx132_2⟩ := at_T39 HR1.out x13_1 p132 q132
        cases e132
        replace hx132_0 := zh HB hx132_0; replace hx132_1 := zh HB hx132_1; replace hx132_2 := zh HB hx132_2; replace p132 := eq_true p132; replace q132 := eq_true q132
        go_wp2_with (first | ((with_reducible refine zD 7 rfl ?_); refine zx 7 #[.int .i64 0, .int .i64 0, .string (⟨#[]⟩ : ByteArray)] 39 ?_; intro gb133 hg w16 hbox hb; have BK133 := Aside0.mk (hbox); have GW133 := (zq hg : Aside0 (w.heap.size ≤ gb133)); have GE133 := GW133; replace HB := (zB hb); clear hb hbox hg; obtain ⟨hcz17_0, hcz17_1, hcz17_2⟩ := zc3 BK133; obtain ⟨hfz17_0, hfz17_1, hfz17_2⟩ := zz3 BK133))
        go_roundg k1
        case measure => have := HK1.out; omega
        case rel => exact ⟨((rd_T39 l1 x13_1).f1), (wrap64 (x13_1 + 1)), zs, zs, H', zk, ⟨zb⟩⟩
    ·rw [if_neg c4] at H; have c4b0 := decide_eq_false c4; clear c4; obtain rfl := Option.some.inj H; go_wp2; go_ret; exact ⟨zr, zb⟩

end Go.Proofs.Ytahcpappailjgaa.P

namespace Go.Proofs.Ytahcpappailjgaa.P
open Go.RowKit Go.Proofs.YtahcpappailjgaaW.PrintWords Go.Proofs.YtahcpappailjgaaW.PrintLast Go.Proofs.YtahcpappailjgaaW.PrintMore
attribute [local go_sem] max2_int min2_int max_two min_two max_three min_three max_four min_four
set_option linter.unusedVariables false
set_option linter.unusedSimpArgs false

/-! ### rope_check: function 66 -/
mutual
def rope_check.l0 : Nat → List (S39) → Int → List (S39) → Int → Int → Option (Int)
 | 0, _, _, _, _, _ => none
 | k + 1, x1, x6, x18, x19, x20 => if x20 < x19 then (if 0 ≤ x20 then (if x20 < (x18.length : Int) then (rope_check.l0 k x1 (wrap64 (x6 + (wrap64 (((rd_T39 x18 x20).f0) - ((rd_T39 x18 x20).f1))))) x18 x19 (wrap64 (x20 + 1))) else (none)) else (none)) else (rope_check.l1 k x6 x1 (x1.length : Int) 0)
def rope_check.l1 : Nat → Int → List (S39) → Int → Int → Option (Int)
 | 0, _, _, _, _ => none
 | k + 1, x6, x32, x33, x34 => if x34 < x33 then (if 0 ≤ x34 then (if x34 < (x32.length : Int) then (if (((rd_T39 x32 x34).f2).size : Int) > (wrap64 (20000 - x6)) then (some 7) else (rope_check.l1 k (wrap64 (x6 + (((rd_T39 x32 x34).f2).size : Int))) x32 x33 (wrap64 (x34 + 1)))) else (none)) else (none)) else (some 0)
end
def rope_check.f (k : Nat) (a0 : Int) (l1 : List (S39)) : Option (Int) := (rope_spans.f k a0 l1).bind fun t134 => (if t134 = 0 then (rope_check.l0 k l1 a0 l1 (l1.length : Int) 0) else (some t134))
theorem rope_check.mono_l : ∀ k, (∀ y0 y1 y2 y3 y4, LeO (rope_check.l0 k y0 y1 y2 y3 y4) (rope_check.l0 (k + 1) y0 y1 y2 y3 y4)) ∧ (∀ y0 y1 y2 y3, LeO (rope_check.l1 k y0 y1 y2 y3) (rope_check.l1 (k + 1) y0 y1 y2 y3))
 | 0 => ⟨fun _ _ _ _ _ r h => by simp [rope_check.l0] at h, fun _ _ _ _ r h => by simp [rope_check.l1] at h⟩
 | k + 1 => by
  obtain ⟨ih0, ih1⟩ := rope_check.mono_l k; refine ⟨?_, ?_⟩
  (intro y0 y1 y2 y3 y4; unfold rope_check.l0); rotate_left
  (intro y0 y1 y2 y3; unfold rope_check.l1); rotate_left
  all_goals repeat' first | (with_reducible exact ih0 _ _ _ _ _) | (with_reducible exact ih1 _ _ _ _) | (with_reducible exact rope_spans.mono _ _ _) | (with_reducible exact LeO.refl _) | (with_reducible exact LeO.none _) | (with_reducible refine LeO.ite ?_ ?_) | (with_reducible refine LeO.bind ?_ (fun _ => ?_)) | exact ih0 _ _ _ _ _ | exact ih1 _ _ _ _ | exact rope_spans.mono _ _ _ | exact LeO.none _ | refine LeO.ite ?_ ?_ | refine LeO.bind ?_ (fun _ => ?_)
theorem rope_check.mono : ∀ a0 a1 k, LeO (rope_check.f k a0 a1) (rope_check.f (k + 1) a0 a1) := by
 intro a0 a1 k; obtain ⟨ih0, ih1⟩ := rope_check.mono_l k; unfold rope_check.f
 repeat' first
   | (with_reducible exact ih0 _ _ _ _ _)
   | (with_reducible exact ih1 _ _ _ _)
   | (with_reducible exact rope_spans.mono _ _ _)
   | (with_reducible exact LeO.refl _)
   | (with_reducible exact LeO.none _)
   | (with_reducible refine LeO.ite ?_ ?_)
   | (with_reducible refine LeO.bind ?_ (fun _ => ?_))
   | exact ih0 _ _ _ _ _
   | exact ih1 _ _ _ _
   | exact rope_spans.mono _ _ _
   | exact LeO.none _
   | refine LeO.ite ?_ ?_
   | refine LeO.bind ?_ (fun _ => ?_)
set_option maxHeartbeats 8000000 in
set_option maxRecDepth 100000 in
theorem rope_check.calls (k : Nat) (a0 : Int) (A1 : Option Addr) (c1 : Nat) (l1 : List (S39)) (r : Int) (w : World) (hr1 : Kd.C k39 w A1 l1.length l1) (hc1 : l1.length ≤ c1) (h : rope_check.f k a0 l1 = some r) :
  Calls Try.prog 66 #[.int .i64 a0, .slice A1 l1.length c1] w fun e w' => e = .returned (.int .i64 r) ∧ Below w.heap.size w w' := by
 have hu39 := Try.underlying39; have HR1 := Aside0.mk hr1; have HC1 := Aside0.mk hc1; clear hr1 hc1; have HB := Aside0.mk (Below.refl w.heap.size w); have H : ((rope_spans.f k a0 l1).bind fun t134 => (if t134 = 0 then (rope_check.l0 k l1 a0 l1 (l1.length : Int) 0) else (some t134))) = some r := h; clear h; replace H := zo H; obtain ⟨t134, A3, H⟩ := H; by_cases c4 : t134 = 0
 ·rw [if_pos c4] at H; have c4b0 : (t134 == 0) = true := beq_iff_eq.mpr c4; have c4b1 : (t134 != 0) = false := bne_eq_false_iff_eq.mpr c4; clear c4; have H' := Aside0.mk H; clear H; go_enter Try.func66, Try.ntmps66
  go_wp2_with (first | ((with_reducible refine zG 87 rfl ?_); refine zg 13 Try.func87 ((rope_spans.calls k a0 _ _ l1 t134 _ ?side1 ?side2 A3.out).mono ?_); (case side1 => exact zE HR1); (case side2 => exact HC1.out); rintro e w5 ⟨rfl, hb⟩; refine ⟨_, rfl, ?_⟩; replace HB := (zB hb); (try clear hb); (try clear hb2); (try clear hk); (try clear hi)))
  go_loopg [6, 20] k (fun kq v6 v20 w' => ∃ (x6_1 : Int) (x20_1 : Int), v6 = .int .i64 x6_1 ∧ v20 = .int .i64 x20_1 ∧ Aside0 (rope_check.l0 kq l1 x6_1 l1 (l1.length : Int) x20_1 = some r) ∧ Aside0 (kq ≤ k) ∧ Aside0 (Below w.heap.size w w'))
  case atStart => exact ⟨(a0), (0), zs, zs, H', ⟨Nat.le_refl _⟩, ⟨zb⟩⟩
  case round =>
   clear H'; obtain ⟨x6_1, x20_1, rfl, rfl, HA, HK1, HB⟩ := hrel
   cases gk with
   | zero => exact absurd HA.out (by simp [rope_check.l0])
   | succ k1 =>
    have H := HA.out; clear HA; simp only [rope_check.l0] at H; by_cases c6 : x20_1 < (l1.length : Int)
    ·rw [if_pos c6] at H; have c6b0 := decide_eq_true c6; clear c6; replace H := zi1 H; obtain ⟨c7b0, H⟩ := H; replace H := zi1 H; obtain ⟨c8b0, H⟩ := H; have H' := Aside0.mk H; clear H; have p135 : 0 ≤ (x20_1 : Int) := zt; have q135 : x20_1 < (l1.length : Int) := zt; obtain ⟨ad135, e135, hx135_0, hx135_1, hx135_2⟩ := at_T39 HR1.out x20_1 p135 q135
     cases e135
     replace hx135_0 := zh HB hx135_0; replace hx135_1 := zh HB hx135_1; replace hx135_2 := zh HB hx135_2; replace p135 := eq_true p135; replace q135 := eq_true q135
     go_wp2_with (first | ((with_reducible refine zD 8 rfl ?_); refine zx 8 #[.int .i64 0, .int .i64 0, .string (⟨#[]⟩ : ByteArray)] 39 ?_; intro gb136 hg w9 hbox hb; have BK136 := Aside0.mk (hbox); have GW136 := (zq hg : Aside0 (w.heap.size ≤ gb136)); have GE136 := GW136; replace HB := (zB hb); clear hb hbox hg; obtain ⟨hcz10_0, hcz10_1, hcz10_2⟩ := zc3 BK136; obtain ⟨hfz10_0, hfz10_1, hfz10_2⟩ := zz3 BK136))
     go_roundg k1
     case measure => have := HK1.out; omega
     case rel => exact ⟨(wrap64 (x6_1 + (wrap64 (((rd_T39 l1 x20_1).f0) - ((rd_T39 l1 x20_1).f1))))), (wrap64 (x20_1 + 1)), zs, zs, H', zk, ⟨zb⟩⟩
    ·rw [if_neg c6] at H; have c6b0 := decide_eq_false c6; clear c6; have H' := Aside0.mk H; clear H; go_wp2
     go_loopg [6, 34] k1 (fun kq v6 v34 w' => ∃ (x6_2 : Int) (x34_2 : Int), v6 = .int .i64 x6_2 ∧ v34 = .int .i64 x34_2 ∧ Aside0 (rope_check.l1 kq x6_2 l1 (l1.length : Int) x34_2 = some r) ∧ Aside0 (kq ≤ k1) ∧ Aside0 (Below w.heap.size w w'))
     case atStart => exact ⟨(x6_1), (0), zs, zs, H', ⟨Nat.le_refl _⟩, ⟨zb⟩⟩
     case round =>
      clear H'; obtain ⟨x6_2, x34_2, rfl, rfl, HA, HK2, HB⟩ := hrel
      cases gk with
      | zero => exact absurd HA.out (by simp [rope_check.l1])
      | succ k2 =>
       have H := HA.out; clear HA; simp only [rope_check.l1] at H; by_cases c11 : x34_2 < (l1.length : Int)
       ·rw [if_pos c11] at H; have c11b0 := decide_eq_true c11; clear c11; replace H := zi1 H; obtain ⟨c12b0, H⟩ := H; replace H := zi1 H; obtain ⟨c13b0, H⟩ := H; by_cases c14 : (((rd_T39 l1 x34_2).f2).size : Int) > (wrap64 (20000 - x6_2))
        ·rw [if_pos c14] at H; have c14b0 := decide_eq_true c14; clear c14; obtain rfl := Option.some.inj H; have p137 : 0 ≤ (x34_2 : Int) := zt; have q137 : x34_2 < (l1.length : Int) := zt; obtain ⟨ad137, e137, hx137_0, hx137_1, hx137_2⟩ := at_T39 HR1.out x34_2 p137 q137
         cases e137
         replace hx137_0 := zh HB hx137_0; replace hx137_1 := zh HB hx137_1; replace hx137_2 := zh HB hx137_2; replace p137 := eq_true p137; replace q137 := eq_true q137
         go_wp2_with (first | ((with_reducible refine zD 10 rfl ?_); refine zx 10 #[.int .i64 0, .int .i64 0, .string (⟨#[]⟩ : ByteArray)] 39 ?_; intro gb138 hg w15 hbox hb; have BK138 := Aside0.mk (hbox); have GW138 := (zq hg : Aside0 (w.heap.size ≤ gb138)); have GE138 := GW138; replace HB := (zB hb); clear hb hbox hg; obtain ⟨hcz16_0, hcz16_1, hcz16_2⟩ := zc3 BK138; obtain ⟨hfz16_0, hfz16_1, hfz16_2⟩ := zz3 BK138))
         go_ret; exact ⟨zr, zb⟩
        ·rw [if_neg c14] at H; have c14b0 := decide_eq_false c14; clear c14; have H' := Aside0.mk H; clear H; have p137 : 0 ≤ (x34_2 : Int) := zt; have q137 : x34_2 < (l1.length : Int) := zt; obtain ⟨ad137, e137, hx137_0, hx137_1, hx137_2⟩ := at_T39 HR1.out x34_2 p137 q137
         cases e137
         replace hx137_0 := zh HB hx137_0; replace hx137_1 := zh HB hx137_1; replace hx137_2 := zh HB hx137_2; replace p137 := eq_true p137; replace q137 := eq_true q137
         go_wp2_with (first | ((with_reducible refine zD 10 rfl ?_); refine zx 10 #[.int .i64 0, .int .i64 0, .string (⟨#[]⟩ : ByteArray)] 39 ?_; intro gb138 hg w17 hbox hb; have BK138 := Aside0.mk (hbox); have GW138 := (zq hg : Aside0 (w.heap.size ≤ gb138)); have GE138 := GW138; replace HB := (zB hb); clear hb hbox hg; obtain ⟨hcz18_0, hcz18_1, hcz18_2⟩ := zc3 BK138; obtain ⟨hfz18_0, hfz18_1, hfz18_2⟩ := zz3 BK138))
         go_roundg k2
         case measure => have := HK1.out; have := HK2.out; omega
         case rel => exact ⟨(wrap64 (x6_2 + (((rd_T39 l1 x34_2).f2).size : Int))), (wrap64 (x34_2 + 1)), zs, zs, H', ⟨by have := HK1.out; have := HK2.out; omega⟩, ⟨zb⟩⟩
       ·rw [if_neg c11] at H; have c11b0 := decide_eq_false c11; clear c11; obtain rfl := Option.some.inj H; go_wp2; go_ret; exact ⟨zr, zb⟩
 ·rw [if_neg c4] at H; have c4b0 : (t134 == 0) = false := beq_eq_false_iff_ne.mpr c4; have c4b1 : (t134 != 0) = true := bne_iff_ne.mpr c4; obtain rfl := Option.some.inj H; go_enter Try.func66, Try.ntmps66
  go_wp2_with (first | ((with_reducible refine zG 87 rfl ?_); refine zg 13 Try.func87 ((rope_spans.calls k a0 _ _ l1 t134 _ ?side1 ?side2 A3.out).mono ?_); (case side1 => exact zE HR1); (case side2 => exact HC1.out); rintro e w19 ⟨rfl, hb⟩; refine ⟨_, rfl, ?_⟩; replace HB := (zB hb); (try clear hb); (try clear hb2); (try clear hk); (try clear hi)))
  go_ret; exact ⟨zr, zb⟩

/-! ### rope_Check: function 43 -/
def rope_Check.f (k : Nat) (a0 : ByteArray) (l1 : List (S39)) : Option (Int) := if (a0.size : Int) > 20000 then (some 3) else ((rope_check.f k (a0.size : Int) l1).bind fun t139 => (some t139))
theorem rope_Check.mono : ∀ a0 a1 k, LeO (rope_Check.f k a0 a1) (rope_Check.f (k + 1) a0 a1) := by
 intro a0 a1 k; unfold rope_Check.f
 repeat' first
   | (with_reducible exact rope_check.mono _ _ _)
   | (with_reducible exact LeO.refl _)
   | (with_reducible exact LeO.none _)
   | (with_reducible refine LeO.ite ?_ ?_)
   | (with_reducible refine LeO.bind ?_ (fun _ => ?_))
   | exact rope_check.mono _ _ _
   | exact LeO.none _
   | refine LeO.ite ?_ ?_
   | refine LeO.bind ?_ (fun _ => ?_)
set_option maxHeartbeats 8000000 in
set_option maxRecDepth 100000 in
theorem rope_Check.calls (k : Nat) (a0 : ByteArray) (A1 : Option Addr) (c1 : Nat) (l1 : List (S39)) (r : Int) (w : World) (hr1 : Kd.C k39 w A1 l1.length l1) (hc1 : l1.length ≤ c1) (h : rope_Check.f k a0 l1 = some r) :
  Calls Try.prog 43 #[.string a0, .slice A1 l1.length c1] w fun e w' => e = .returned (.int .i64 r) ∧ Below w.heap.size w w' := by
 have HR1 := Aside0.mk hr1; have HC1 := Aside0.mk hc1; clear hr1 hc1; have HB := Aside0.mk (Below.refl w.heap.size w); have H : (if (a0.size : Int) > 20000 then (some 3) else ((rope_check.f k (a0.size : Int) l1).bind fun t139 => (some t139))) = some r := h; clear h; by_cases c3 : (a0.size : Int) > 20000
 ·rw [if_pos c3] at H; have c3b0 := decide_eq_true c3; have c3b1 : decide (20000 < a0.size) = true := decide_eq_true (by omega); clear c3; obtain rfl := Option.some.inj H; go_enter Try.func43, Try.ntmps43; go_wp2; go_ret; exact ⟨zr, zb⟩
 ·rw [if_neg c3] at H; have c3b0 := decide_eq_false c3; have c3b1 : decide (20000 < a0.size) = false := decide_eq_false (by omega); clear c3; replace H := zo H; obtain ⟨t139, A4, H⟩ := H; obtain rfl := Option.some.inj H; go_enter Try.func43, Try.ntmps43
  go_wp2_with (first | ((with_reducible refine zG 66 rfl ?_); refine zg 11 Try.func66 ((rope_check.calls k (a0.size : Int) _ _ l1 t139 _ ?side1 ?side2 A4.out).mono ?_); (case side1 => exact zE HR1); (case side2 => exact HC1.out); rintro e w5 ⟨rfl, hb⟩; refine ⟨_, rfl, ?_⟩; replace HB := (zB hb); (try clear hb); (try clear hb2); (try clear hk); (try clear hi)))
  go_ret; exact ⟨zr, zb⟩

end Go.Proofs.Ytahcpappailjgaa.P

namespace Go.Proofs.Ytahcpappailjgaa.P
open Go.RowKit Go.Proofs.YtahcpappailjgaaW.PrintWords Go.Proofs.YtahcpappailjgaaW.PrintLast Go.Proofs.YtahcpappailjgaaW.PrintMore
attribute [local go_sem] max2_int min2_int max_two min_two max_three min_three max_four min_four
set_option linter.unusedVariables false
set_option linter.unusedSimpArgs false

def rope_Apply.go (s : ByteArray) : List (S39) → Int → List UInt8 → Option (List UInt8)
 | [], p, acc => if 0 ≤ p then (if p ≤ (s.size : Int) then (if acc.length + (s.extract p.toNat s.size).size ≤ 140737488355328 then some (acc ++ (s.extract p.toNat s.size).data.toList) else none) else none) else none
 | e :: r, p, acc => if 0 ≤ p then (if p ≤ e.f0 then (if e.f0 ≤ (s.size : Int) then (if acc.length + (s.extract p.toNat e.f0.toNat).size + e.f2.size ≤ 140737488355328 then rope_Apply.go s r e.f1 (acc ++ (s.extract p.toNat e.f0.toNat).data.toList ++ e.f2.data.toList) else none) else none) else none) else none
def rope_Apply.f (k : Nat) (a0 : ByteArray) (l1 : List (S39)) : Option (ByteArray × Int) := (rope_Check.f k a0 l1).bind fun t => if t = 0 then (rope_Apply.go a0 l1 0 []).map (fun l => (⟨l.toArray⟩, 0)) else some (⟨#[]⟩, t)
theorem rope_Apply.mono : ∀ a0 a1 k, LeO (rope_Apply.f k a0 a1) (rope_Apply.f (k + 1) a0 a1) := by
 intro a0 a1 k; unfold rope_Apply.f; exact LeO.bind (rope_Check.mono _ _ _) (fun _ => LeO.refl _)
set_option maxHeartbeats 8000000 in
set_option maxRecDepth 100000 in
theorem rope_Apply.calls (k : Nat) (a0 : ByteArray) (A1 : Option Addr) (c1 : Nat) (l1 : List (S39)) (r1 : ByteArray) (r2 : Int) (w : World) (hr1 : Kd.C k39 w A1 l1.length l1) (hc1 : l1.length ≤ c1) (h : rope_Apply.f k a0 l1 = some (r1, r2)) :
  Calls Try.prog 27 #[.string a0, .slice A1 l1.length c1] w fun e w' => e = .returned (.tuple #[.string r1, .int .i64 r2]) ∧ Below w.heap.size w w' := by
 have hu := Try.underlying39; unfold rope_Apply.f at h; obtain ⟨t, ht, h⟩ := Option.bind_eq_some_iff.mp h; by_cases c : t = 0
 ·rw [if_pos c] at h; have c0 : (t != 0) = false := bne_eq_false_iff_eq.mpr c; obtain ⟨l, hl, h⟩ := Option.map_eq_some_iff.mp h; simp only [Prod.mk.injEq] at h; obtain ⟨rfl, rfl⟩ := h; clear c; go_enter Try.func27, Try.ntmps27
  go_wp2_with (go_at_call 43; refine (rope_Check.calls k a0 _ _ l1 t _ hr1 hc1 ht).mono ?_; rintro e w1 ⟨rfl, hb⟩)
  have hb0 : Below w.heap.size w (w1.alloc (.cells #[.pointer none, .slice none 0 0] 79)) := below_alloc hb _; have hB0 : Bld.IsB w.heap.size w1.heap.size [] (w1.alloc (.cells #[.pointer none, .slice none 0 0] 79)) := Bld.IsB.new hb.size; have HB0 := Aside0.mk hb0; have HI0 := Aside0.mk hB0; have HL := Aside0.mk hl; have HR := Aside0.mk hr1; clear hb0 hB0 hl hr1
  go_loopg [8, 19] l1.length (fun kq v8 v19 w' => ∃ (i : Nat) (p : Int) (acc : List UInt8), v8 = .int .i64 p ∧ v19 = .int .i64 i ∧ Aside0 (i + kq = l1.length) ∧ Aside0 (rope_Apply.go a0 (l1.drop i) p acc = some l) ∧ Aside0 (Bld.IsB w.heap.size w1.heap.size acc w') ∧ Aside0 (Below w.heap.size w w'))
  case atStart => exact ⟨0, 0, [], rfl, rfl, ⟨by omega⟩, HL, HI0, HB0⟩
  case round =>
   clear HL HI0 HB0; obtain ⟨i, p, acc, rfl, rfl, HK, HA, HI, HB⟩ := hrel; have hmax : l1.length ≤ 9223372036854775807 := HR.out.2.1; by_cases hlt : i < l1.length
   ·have hd : decide ((i : Int) < (l1.length : Int)) = true := decide_eq_true (by omega); have H := HA.out; rw [List.drop_eq_getElem_cons hlt] at H; simp only [rope_Apply.go] at H; obtain ⟨h0, H⟩ := Ut.ite_some H; obtain ⟨h1, H⟩ := Ut.ite_some H; obtain ⟨h2, H⟩ := Ut.ite_some H; obtain ⟨h3, H⟩ := Ut.ite_some H
    have hrd : rd_T39 l1 (i : Int) = l1[i] := (by simp [rd_T39, hlt])
    obtain ⟨ad, e, hx0, hx1, hx2⟩ := at_T39 HR.out (i : Int) (by omega) (by omega); rw [hrd, Int.toNat_natCast] at hx0 hx1 hx2
    cases e
    replace hx0 := zh HB hx0; replace hx1 := zh HB hx1; replace hx2 := zh HB hx2; generalize l1[i] = x at *; go_wp2_with fail; refine (Bld.write w.heap.size w1.heap.size acc _ _ (HI.out.alloc _) (by omega) (below_size (below_alloc HB.out _))).mono ?_; rintro e w2 ⟨rfl, hI2, hb2, hk2⟩
    have hbox : w2.heap[wr.heap.size]? = some (.cells #[.int .i64 x.f0, .int .i64 x.f1, .string x.f2] 39 (0, 0)) :=
     hk2 _ _ (Bld.alloc_at _ _) (by have := HI.out.lt; simp; omega) (by intro c fz e; injection e with _ e2; exact absurd e2 (by decide))
    have hz1 : w2.cell? ⟨wr.heap.size, 1, none⟩ = some (.int .i64 x.f1) := (by rw [Lib.cell_of_heap hbox]; rfl)
    have hz2 : w2.cell? ⟨wr.heap.size, 2, none⟩ = some (.string x.f2) := (by rw [Lib.cell_of_heap hbox]; rfl)
    go_wp2_with fail; have hB2 : Below w.heap.size w w2 := (below_alloc HB.out _).trans hb2; refine (Bld.write w.heap.size w1.heap.size _ _ _ hI2 (by simp; simp at h3; omega) (below_size hB2)).mono ?_; rintro e w3 ⟨rfl, hI3, hb3, hk3⟩; have hbox3 := hk3 _ _ hbox (by have := HI.out.lt; simp; omega) (by intro c fz e; injection e with _ e2; exact absurd e2 (by decide))
    have hz3 : w3.cell? ⟨wr.heap.size, 1, none⟩ = some (.int .i64 x.f1) := (by rw [Lib.cell_of_heap hbox3]; rfl)
    have HA' := Aside0.mk H; clear H HA
    cases gk with
    | zero => exact absurd hlt (by have := HK.out; omega)
    | succ kq' =>
    go_wp2_with fail
    go_roundg kq'
    case measure => omega
    case rel => exact ⟨i + 1, x.f1, _, rfl, by go_num, ⟨by have := HK.out; omega⟩, HA', ⟨hI3⟩, ⟨hB2.trans hb3⟩⟩
   ·have hd : decide ((i : Int) < (l1.length : Int)) = false := decide_eq_false (by omega); have H := HA.out; rw [List.drop_of_length_le (by have := HK.out; omega)] at H; simp only [rope_Apply.go] at H; obtain ⟨h0, H⟩ := Ut.ite_some H; obtain ⟨h1, H⟩ := Ut.ite_some H; obtain ⟨h2, H⟩ := Ut.ite_some H; simp only [Option.some.injEq] at H; go_wp2_with fail; refine (Bld.write w.heap.size w1.heap.size acc _ _ HI.out (by omega) (below_size HB.out)).mono ?_; rintro e w2 ⟨rfl, hI2, hb2, hk2⟩; rw [H] at hI2; go_wp2_with fail; refine (Bld.string w.heap.size w1.heap.size l _ hI2 (below_size (HB.out.trans hb2))).mono ?_; rintro e w3 ⟨rfl, hb3⟩; go_wp2_with fail
    go_ret2
    exact ⟨rfl, (HB.out.trans hb2).trans hb3⟩
 ·rw [if_neg c] at h; have c0 : (t != 0) = true := bne_iff_ne.mpr c; simp only [Option.some.injEq, Prod.mk.injEq] at h; obtain ⟨rfl, rfl⟩ := h; clear c; go_enter Try.func27, Try.ntmps27
  go_wp2_with (go_at_call 43; refine (rope_Check.calls k a0 _ _ l1 t _ hr1 hc1 ht).mono ?_; rintro e w1 ⟨rfl, hb⟩)
  go_ret2
  exact ⟨rfl, hb⟩

end Go.Proofs.Ytahcpappailjgaa.P

namespace Go.Proofs.Ytahcpappailjgaa.P
open Go.RowKit Go.Proofs.YtahcpappailjgaaW.PrintWords Go.Proofs.YtahcpappailjgaaW.PrintLast Go.Proofs.YtahcpappailjgaaW.PrintMore
attribute [local go_sem] max2_int min2_int max_two min_two max_three min_three max_four min_four
set_option linter.unusedVariables false
set_option linter.unusedSimpArgs false

theorem eqA59 (d : Nat) (w : World) (x0 y0 : Int) (x1 y1 : ByteArray) :
  (Op.equalIn (d + 2) 59 (.agg #[.int .i64 x0, .string x1]) (.agg #[.int .i64 y0, .string y1])).run Try.prog w = .ok (x0 == y0 && (x1.toList == y1.toList)) w := by
 refine eqA_of Try.underlying59 (by kernel_rfl) ?_; refine eqf_cons (by rfl) (by go_simp; rfl) (by go_simp; rfl) (by go_simp) ?_; exact eqf_last (by rfl) (by go_simp; rfl) (by go_simp; rfl) (by go_simp)
end Go.Proofs.Ytahcpappailjgaa.P

namespace Go.Proofs.Ytahcpappailjgaa.P
open Go.RowKit Go.Proofs.YtahcpappailjgaaW.PrintWords Go.Proofs.YtahcpappailjgaaW.PrintLast Go.Proofs.YtahcpappailjgaaW.PrintMore
attribute [local go_sem] max2_int min2_int max_two min_two max_three min_three max_four min_four
set_option linter.unusedVariables false
set_option linter.unusedSimpArgs false

attribute [local go_sem high] eqA59
/-! ### relex_Common: function 21 -/
mutual
def relex_Common.j1 : Nat → List (S59) → List (S59) → Int → Option (Int × Int × Int)
 | 0, _, _, _ => none
 | k + 1, x0, x1, x7 => relex_Common.l1 k x0 x1 x7 0
def relex_Common.l1 : Nat → List (S59) → List (S59) → Int → Int → Option (Int × Int × Int)
 | 0, _, _, _, _ => none
 | k + 1, x0, x1, x7, x8 => if x8 < (wrap64 ((mn (x0.length : Int) (x1.length : Int)) - x7)) then (if 0 ≤ (wrap64 ((wrap64 ((x0.length : Int) - 1)) - x8)) then (if (wrap64 ((wrap64 ((x0.length : Int) - 1)) - x8)) < (x0.length : Int) then (if 0 ≤ (wrap64 ((wrap64 ((x1.length : Int) - 1)) - x8)) then (if (wrap64 ((wrap64 ((x1.length : Int) - 1)) - x8)) < (x1.length : Int) then (if (((rd_T59 x0 (wrap64 ((wrap64 ((x0.length : Int) - 1)) - x8))).f0) == ((rd_T59 x1 (wrap64 ((wrap64 ((x1.length : Int) - 1)) - x8))).f0) && ((((rd_T59 x0 (wrap64 ((wrap64 ((x0.length : Int) - 1)) - x8))).f1).toList) == (((rd_T59 x1 (wrap64 ((wrap64 ((x1.length : Int) - 1)) - x8))).f1).toList))) = true then (relex_Common.l1 k x0 x1 x7 (wrap64 (x8 + 1))) else (some (x7, x8, 0))) else (none)) else (none)) else (none)) else (none)) else (some (x7, x8, 0))
def relex_Common.l0 : Nat → List (S59) → List (S59) → Int → Option (Int × Int × Int)
 | 0, _, _, _ => none
 | k + 1, x0, x1, x7 => if x7 < (mn (x0.length : Int) (x1.length : Int)) then (if 0 ≤ x7 then (if x7 < (x0.length : Int) then (if x7 < (x1.length : Int) then (if (((rd_T59 x0 x7).f0) == ((rd_T59 x1 x7).f0) && ((((rd_T59 x0 x7).f1).toList) == (((rd_T59 x1 x7).f1).toList))) = true then (relex_Common.l0 k x0 x1 (wrap64 (x7 + 1))) else (relex_Common.j1 k x0 x1 x7)) else (none)) else (none)) else (none)) else (relex_Common.j1 k x0 x1 x7)
end
def relex_Common.f (k : Nat) (l0 : List (S59)) (l1 : List (S59)) : Option (Int × Int × Int) := if (mx (l0.length : Int) (l1.length : Int)) > 20000 then (some (0, 0, 3)) else (relex_Common.l0 k l0 l1 0)
theorem relex_Common.mono_l : ∀ k, (∀ y0 y1 y2, LeO (relex_Common.j1 k y0 y1 y2) (relex_Common.j1 (k + 1) y0 y1 y2)) ∧ (∀ y0 y1 y2 y3, LeO (relex_Common.l1 k y0 y1 y2 y3) (relex_Common.l1 (k + 1) y0 y1 y2 y3)) ∧ (∀ y0 y1 y2, LeO (relex_Common.l0 k y0 y1 y2) (relex_Common.l0 (k + 1) y0 y1 y2))
 | 0 => ⟨fun _ _ _ r h => by simp [relex_Common.j1] at h, fun _ _ _ _ r h => by simp [relex_Common.l1] at h, fun _ _ _ r h => by simp [relex_Common.l0] at h⟩
 | k + 1 => by
  obtain ⟨ih0, ih1, ih2⟩ := relex_Common.mono_l k; refine ⟨?_, ?_, ?_⟩
  (intro y0 y1 y2; unfold relex_Common.j1); rotate_left
  (intro y0 y1 y2 y3; unfold relex_Common.l1); rotate_left
  (intro y0 y1 y2; unfold relex_Common.l0); rotate_left
  all_goals repeat' first | (with_reducible exact ih0 _ _ _) | (with_reducible exact ih1 _ _ _ _) | (with_reducible exact ih2 _ _ _) | (with_reducible exact LeO.refl _) | (with_reducible exact LeO.none _) | (with_reducible refine LeO.ite ?_ ?_) | (with_reducible refine LeO.bind ?_ (fun _ => ?_)) | exact ih0 _ _ _ | exact ih1 _ _ _ _ | exact ih2 _ _ _ | exact LeO.none _ | refine LeO.ite ?_ ?_ | refine LeO.bind ?_ (fun _ => ?_)
theorem relex_Common.mono : ∀ a0 a1 k, LeO (relex_Common.f k a0 a1) (relex_Common.f (k + 1) a0 a1) := by
 intro a0 a1 k; obtain ⟨ih0, ih1, ih2⟩ := relex_Common.mono_l k; unfold relex_Common.f
 repeat' first
   | (with_reducible exact ih0 _ _ _)
   | (with_reducible exact ih1 _ _ _ _)
   | (with_reducible exact ih2 _ _ _)
   | (with_reducible exact LeO.refl _)
   | (with_reducible exact LeO.none _)
   | (with_reducible refine LeO.ite ?_ ?_)
   | (with_reducible refine LeO.bind ?_ (fun _ => ?_))
   | exact ih0 _ _ _
   | exact ih1 _ _ _ _
   | exact ih2 _ _ _
   | exact LeO.none _
   | refine LeO.ite ?_ ?_
   | refine LeO.bind ?_ (fun _ => ?_)
set_option maxHeartbeats 8000000 in
set_option maxRecDepth 100000 in
theorem relex_Common.calls (k : Nat) (A0 : Option Addr) (c0 : Nat) (l0 : List (S59)) (A1 : Option Addr) (c1 : Nat) (l1 : List (S59)) (r1 : Int) (r2 : Int) (r3 : Int) (w : World) (hr0 : Kd.C k59 w A0 l0.length l0) (hc0 : l0.length ≤ c0) (hr1 : Kd.C k59 w A1 l1.length l1) (hc1 : l1.length ≤ c1) (h : relex_Common.f k l0 l1 = some (r1, r2, r3)) :
  Calls Try.prog 21 #[.slice A0 l0.length c0, .slice A1 l1.length c1] w fun e w' => e = .returned (.tuple #[.int .i64 r1, .int .i64 r2, .int .i64 r3]) ∧ Below w.heap.size w w' := by
 have hu59 := Try.underlying59; have HR0 := Aside0.mk hr0; have HC0 := Aside0.mk hc0; clear hr0 hc0; have HR1 := Aside0.mk hr1; have HC1 := Aside0.mk hc1; clear hr1 hc1; have HB := Aside0.mk (Below.refl w.heap.size w); have H : (if (mx (l0.length : Int) (l1.length : Int)) > 20000 then (some (0, 0, 3)) else (relex_Common.l0 k l0 l1 0)) = some (r1, r2, r3) := h; clear h
 obtain ⟨ji3, hji3⟩ : ∃ j_ : Int, (mx (l0.length : Int) (l1.length : Int)) = j_ := ⟨_, rfl⟩
 replace H : (if (ji3) > 20000 then (some (0, 0, 3)) else (relex_Common.l0 k l0 l1 0)) = some (r1, r2, r3) := by first | (rw [hji3] at H; exact H) | (simp only [hji3] at H ⊢; exact H)
 (try (have hji3l : 0 ≤ ji3 := by (rw [← hji3]; unfold mx; (repeat' split) <;> omega)))
 (try (have hji3m : 0 ≤ ji3 := by omega))
 have hji3_ : (if (l0.length : Int) < (l1.length : Int) then (l1.length : Int) else (l0.length : Int)) = ji3 := hji3
 have hji3n : (if l0.length < l1.length then (l1.length : Int) else (l0.length : Int)) = ji3 := (by rw [← hji3]; unfold mx; (repeat' split) <;> omega)
 by_cases c4 : (ji3) > 20000
 ·rw [if_pos c4] at H; have c4b0 := decide_eq_true c4; clear c4; simp only [Option.some.injEq, Prod.mk.injEq] at H; obtain ⟨rfl, rfl, rfl⟩ := H; go_enter Try.func21, Try.ntmps21; go_wp2
  repeat (go_quiet (fail); try go_wp2)
  go_ret3
  exact ⟨by first | rfl | (simp [errW_none, errW_some] <;> rfl) | (simp only [← hji3]; first | rfl | (simp [errW_none, errW_some] <;> rfl)) | (simp [*, errW_none, errW_some] <;> rfl), zb⟩
 ·rw [if_neg c4] at H; have c4b0 := decide_eq_false c4; clear c4; have HC5 := Aside0.mk H; clear H; go_enter Try.func21, Try.ntmps21
  go_upto_block 0 with (fail)
  repeat (go_quiet (fail); go_upto_block 0 with (fail))
  go_cut [7] (fun v7 wc => ∃ (kq : Nat) (x7_4 : Int), v7 = .int .i64 x7_4 ∧ Aside0 (relex_Common.j1 kq l0 l1 x7_4 = some (r1, r2, r3)) ∧ Aside0 (kq ≤ k) ∧ Aside0 (Below w.heap.size w wc))
  case first =>
   have H := HC5.out; clear HC5; have H' := Aside0.mk H; clear H; go_wp2
   repeat (go_quiet (fail); try go_wp2)
   go_loopg [7] k (fun kq v7 w' => ∃ (x7_1 : Int), v7 = .int .i64 x7_1 ∧ Aside0 (relex_Common.l0 kq l0 l1 x7_1 = some (r1, r2, r3)) ∧ Aside0 (kq ≤ k) ∧ Aside0 (Below w.heap.size w w'))
   case atStart => exact ⟨(0), zs, H', ⟨Nat.le_refl _⟩, ⟨zb⟩⟩
   case round =>
    clear H'; obtain ⟨x7_1, rfl, HA, HK1, HB⟩ := hrel
    cases gk with
    | zero => exact absurd HA.out (by simp [relex_Common.l0])
    | succ k1 =>
     have H := HA.out; clear HA; simp only [relex_Common.l0] at H
     obtain ⟨ji6, hji6⟩ : ∃ j_ : Int, (mn (l0.length : Int) (l1.length : Int)) = j_ := ⟨_, rfl⟩
     replace H : (if x7_1 < (ji6) then (if 0 ≤ x7_1 then (if x7_1 < (l0.length : Int) then (if x7_1 < (l1.length : Int) then (if (((rd_T59 l0 x7_1).f0) == ((rd_T59 l1 x7_1).f0) && ((((rd_T59 l0 x7_1).f1).toList) == (((rd_T59 l1 x7_1).f1).toList))) = true then (relex_Common.l0 k1 l0 l1 (wrap64 (x7_1 + 1))) else (relex_Common.j1 k1 l0 l1 x7_1)) else (none)) else (none)) else (none)) else (relex_Common.j1 k1 l0 l1 x7_1)) = some (r1, r2, r3) := by first | (rw [hji6] at H; exact H) | (simp only [hji6] at H ⊢; exact H)
     have hji6_ : (if (l1.length : Int) < (l0.length : Int) then (l1.length : Int) else (l0.length : Int)) = ji6 := hji6
     have hji6n : (if l1.length < l0.length then (l1.length : Int) else (l0.length : Int)) = ji6 := (by rw [← hji6]; unfold mn; (repeat' split) <;> omega)
     by_cases c7 : x7_1 < (ji6)
     ·rw [if_pos c7] at H; have c7b0 := decide_eq_true c7; clear c7
      (first | rw [c7b0] | (simp only [i64_w, i32_w]; rw [c7b0]) | skip)
      replace H := zi1 H; obtain ⟨c8b0, H⟩ := H; replace H := zi1 H; obtain ⟨c9b0, H⟩ := H; replace H := zi1 H; obtain ⟨c10b0, H⟩ := H; by_cases c11 : (((rd_T59 l0 x7_1).f0) == ((rd_T59 l1 x7_1).f0) && ((((rd_T59 l0 x7_1).f1).toList) == (((rd_T59 l1 x7_1).f1).toList))) = true
      ·rw [if_pos c11] at H; have c11b0 : (((rd_T59 l0 x7_1).f0) == ((rd_T59 l1 x7_1).f0) && ((((rd_T59 l0 x7_1).f1).toList) == (((rd_T59 l1 x7_1).f1).toList))) = true := c11
       (try (have c11b1 : decide (((rd_T59 l0 x7_1).f0) = ((rd_T59 l1 x7_1).f0) && ((((rd_T59 l0 x7_1).f1).toList) == (((rd_T59 l1 x7_1).f1).toList))) = true := by simpa using c11))
       (try (have c11b2 : (((rd_T59 l0 x7_1).f0) == ((rd_T59 l1 x7_1).f0) && ((((rd_T59 l0 x7_1).f1).toList) == (((rd_T59 l1 x7_1).f1).toList))) = true := by simpa using c11))
       clear c11; have H' := Aside0.mk H; clear H; have p284 : 0 ≤ (x7_1 : Int) := zt; have q284 : x7_1 < (l0.length : Int) := zt; obtain ⟨ad284, e284, hx284_0, hx284_1⟩ := at_T59 HR0.out x7_1 p284 q284
       cases e284
       replace hx284_0 := zh HB hx284_0; replace hx284_1 := zh HB hx284_1; replace p284 := eq_true p284; replace q284 := eq_true q284; have p285 : 0 ≤ (x7_1 : Int) := zt; have q285 : x7_1 < (l1.length : Int) := zt; obtain ⟨ad285, e285, hx285_0, hx285_1⟩ := at_T59 HR1.out x7_1 p285 q285
       cases e285
       replace hx285_0 := zh HB hx285_0; replace hx285_1 := zh HB hx285_1; replace p285 := eq_true p285; replace q285 := eq_true q285; go_wp2
       repeat (go_quiet (fail); try go_wp2)
       go_roundg k1
       case measure => have := HK1.out; omega
       case rel => exact ⟨(wrap64 (x7_1 + 1)), zs, H', zk, ⟨zb⟩⟩
      ·rw [if_neg c11] at H
       have c11b0 : (((rd_T59 l0 x7_1).f0) == ((rd_T59 l1 x7_1).f0) && ((((rd_T59 l0 x7_1).f1).toList) == (((rd_T59 l1 x7_1).f1).toList))) = false := (by simpa using c11)
       (try (have c11b1 : decide (((rd_T59 l0 x7_1).f0) = ((rd_T59 l1 x7_1).f0) && ((((rd_T59 l0 x7_1).f1).toList) == (((rd_T59 l1 x7_1).f1).toList))) = false := by simpa using c11))
       (try (have c11b2 : (((rd_T59 l0 x7_1).f0) == ((rd_T59 l1 x7_1).f0) && ((((rd_T59 l0 x7_1).f1).toList) == (((rd_T59 l1 x7_1).f1).toList))) = false := by simpa using c11))
       (try (have c11b3 : ¬ (((rd_T59 l0 x7_1).f0) = ((rd_T59 l1 x7_1).f0) && ((((rd_T59 l0 x7_1).f1).toList) == (((rd_T59 l1 x7_1).f1).toList))) := by simpa using c11))
       clear c11; have H' := Aside0.mk H; clear H; have p284 : 0 ≤ (x7_1 : Int) := zt; have q284 : x7_1 < (l0.length : Int) := zt; obtain ⟨ad284, e284, hx284_0, hx284_1⟩ := at_T59 HR0.out x7_1 p284 q284
       cases e284
       replace hx284_0 := zh HB hx284_0; replace hx284_1 := zh HB hx284_1; replace p284 := eq_true p284; replace q284 := eq_true q284; have p285 : 0 ≤ (x7_1 : Int) := zt; have q285 : x7_1 < (l1.length : Int) := zt; obtain ⟨ad285, e285, hx285_0, hx285_1⟩ := at_T59 HR1.out x7_1 p285 q285
       cases e285
       replace hx285_0 := zh HB hx285_0; replace hx285_1 := zh HB hx285_1; replace p285 := eq_true p285; replace q285 := eq_true q285; go_wp2
       repeat (go_quiet (fail); try go_wp2)
       go_meet
       case rel => exact ⟨_, (x7_1), zs, H', zk, ⟨zb⟩⟩
     ·rw [if_neg c7] at H; have c7b0 := decide_eq_false c7; clear c7
      (first | rw [c7b0] | (simp only [i64_w, i32_w]; rw [c7b0]) | skip)
      have H' := Aside0.mk H; clear H; go_wp2
      repeat (go_quiet (fail); try go_wp2)
      go_meet
      case rel => exact ⟨_, (x7_1), zs, H', zk, ⟨zb⟩⟩
  case rest =>
   clear HC5; obtain ⟨kq, x7_4, rfl, HA, HJ4, HB⟩ := hcut
   cases kq with
   | zero => exact absurd HA.out (by simp [relex_Common.j1])
   | succ kj4 =>
    have H := HA.out; clear HA; simp only [relex_Common.j1] at H; have H' := Aside0.mk H; clear H; go_wp2
    repeat (go_quiet (fail); try go_wp2)
    go_loopg [8] kj4 (fun kq v8 w' => ∃ (x8_2 : Int), v8 = .int .i64 x8_2 ∧ Aside0 (relex_Common.l1 kq l0 l1 x7_4 x8_2 = some (r1, r2, r3)) ∧ Aside0 (kq ≤ kj4) ∧ Aside0 (Below w.heap.size w w'))
    case atStart => exact ⟨(0), zs, H', ⟨Nat.le_refl _⟩, ⟨zb⟩⟩
    case round =>
     clear H'; obtain ⟨x8_2, rfl, HA, HK2, HB⟩ := hrel
     cases gk with
     | zero => exact absurd HA.out (by simp [relex_Common.l1])
     | succ k2 =>
      have H := HA.out; clear HA; simp only [relex_Common.l1] at H
      obtain ⟨ji12, hji12⟩ : ∃ j_ : Int, (mn (l0.length : Int) (l1.length : Int)) = j_ := ⟨_, rfl⟩
      replace H : (if x8_2 < (wrap64 ((ji12) - x7_4)) then (if 0 ≤ (wrap64 ((wrap64 ((l0.length : Int) - 1)) - x8_2)) then (if (wrap64 ((wrap64 ((l0.length : Int) - 1)) - x8_2)) < (l0.length : Int) then (if 0 ≤ (wrap64 ((wrap64 ((l1.length : Int) - 1)) - x8_2)) then (if (wrap64 ((wrap64 ((l1.length : Int) - 1)) - x8_2)) < (l1.length : Int) then (if (((rd_T59 l0 (wrap64 ((wrap64 ((l0.length : Int) - 1)) - x8_2))).f0) == ((rd_T59 l1 (wrap64 ((wrap64 ((l1.length : Int) - 1)) - x8_2))).f0) && ((((rd_T59 l0 (wrap64 ((wrap64 ((l0.length : Int) - 1)) - x8_2))).f1).toList) == (((rd_T59 l1 (wrap64 ((wrap64 ((l1.length : Int) - 1)) - x8_2))).f1).toList))) = true then (relex_Common.l1 k2 l0 l1 x7_4 (wrap64 (x8_2 + 1))) else (some (x7_4, x8_2, 0))) else (none)) else (none)) else (none)) else (none)) else (some (x7_4, x8_2, 0))) = some (r1, r2, r3) := by first | (rw [hji12] at H; exact H) | (simp only [hji12] at H ⊢; exact H)
      have hji12_ : (if (l1.length : Int) < (l0.length : Int) then (l1.length : Int) else (l0.length : Int)) = ji12 := hji12
      have hji12n : (if l1.length < l0.length then (l1.length : Int) else (l0.length : Int)) = ji12 := (by rw [← hji12]; unfold mn; (repeat' split) <;> omega)
      by_cases c13 : x8_2 < (wrap64 ((ji12) - x7_4))
      ·rw [if_pos c13] at H; have c13b0 := decide_eq_true c13; clear c13
       obtain ⟨ji14, hji14⟩ : ∃ j_ : Int, (wrap64 ((wrap64 ((l0.length : Int) - 1)) - x8_2)) = j_ := ⟨_, rfl⟩
       replace H : (if 0 ≤ (ji14) then (if (ji14) < (l0.length : Int) then (if 0 ≤ (wrap64 ((wrap64 ((l1.length : Int) - 1)) - x8_2)) then (if (wrap64 ((wrap64 ((l1.length : Int) - 1)) - x8_2)) < (l1.length : Int) then (if (((rd_T59 l0 (ji14)).f0) == ((rd_T59 l1 (wrap64 ((wrap64 ((l1.length : Int) - 1)) - x8_2))).f0) && ((((rd_T59 l0 (ji14)).f1).toList) == (((rd_T59 l1 (wrap64 ((wrap64 ((l1.length : Int) - 1)) - x8_2))).f1).toList))) = true then (relex_Common.l1 k2 l0 l1 x7_4 (wrap64 (x8_2 + 1))) else (some (x7_4, x8_2, 0))) else (none)) else (none)) else (none)) else (none)) = some (r1, r2, r3) := by first | (rw [hji14] at H; exact H) | (simp only [hji14] at H ⊢; exact H)
       have hji14w : (IntKind.i64.wrap ((wrap64 ((l0.length : Int) - 1)) - x8_2)) = ji14 := (i64_w _).trans hji14; replace H := zi1 H; obtain ⟨c15b0, H⟩ := H; replace H := zi1 H; obtain ⟨c16b0, H⟩ := H
       obtain ⟨ji17, hji17⟩ : ∃ j_ : Int, (wrap64 ((wrap64 ((l1.length : Int) - 1)) - x8_2)) = j_ := ⟨_, rfl⟩
       replace H : (if 0 ≤ (ji17) then (if (ji17) < (l1.length : Int) then (if (((rd_T59 l0 (ji14)).f0) == ((rd_T59 l1 (ji17)).f0) && ((((rd_T59 l0 (ji14)).f1).toList) == (((rd_T59 l1 (ji17)).f1).toList))) = true then (relex_Common.l1 k2 l0 l1 x7_4 (wrap64 (x8_2 + 1))) else (some (x7_4, x8_2, 0))) else (none)) else (none)) = some (r1, r2, r3) := by first | (rw [hji17] at H; exact H) | (simp only [hji17] at H ⊢; exact H)
       have hji17w : (IntKind.i64.wrap ((wrap64 ((l1.length : Int) - 1)) - x8_2)) = ji17 := (i64_w _).trans hji17; replace H := zi1 H; obtain ⟨c18b0, H⟩ := H; replace H := zi1 H; obtain ⟨c19b0, H⟩ := H; by_cases c20 : (((rd_T59 l0 (ji14)).f0) == ((rd_T59 l1 (ji17)).f0) && ((((rd_T59 l0 (ji14)).f1).toList) == (((rd_T59 l1 (ji17)).f1).toList))) = true
       ·rw [if_pos c20] at H; have c20b0 : (((rd_T59 l0 (ji14)).f0) == ((rd_T59 l1 (ji17)).f0) && ((((rd_T59 l0 (ji14)).f1).toList) == (((rd_T59 l1 (ji17)).f1).toList))) = true := c20
        (try (have c20b1 : decide (((rd_T59 l0 (ji14)).f0) = ((rd_T59 l1 (ji17)).f0) && ((((rd_T59 l0 (ji14)).f1).toList) == (((rd_T59 l1 (ji17)).f1).toList))) = true := by simpa using c20))
        (try (have c20b2 : (((rd_T59 l0 (ji14)).f0) == ((rd_T59 l1 (ji17)).f0) && ((((rd_T59 l0 (ji14)).f1).toList) == (((rd_T59 l1 (ji17)).f1).toList))) = true := by simpa using c20))
        clear c20; have H' := Aside0.mk H; clear H; have p286 : 0 ≤ ((ji14) : Int) := zt; have q286 : (ji14) < (l0.length : Int) := zt; obtain ⟨ad286, e286, hx286_0, hx286_1⟩ := at_T59 HR0.out (ji14) p286 q286
        cases e286
        replace hx286_0 := zh HB hx286_0; replace hx286_1 := zh HB hx286_1; replace p286 := eq_true p286; replace q286 := eq_true q286; have p287 : 0 ≤ ((ji17) : Int) := zt; have q287 : (ji17) < (l1.length : Int) := zt; obtain ⟨ad287, e287, hx287_0, hx287_1⟩ := at_T59 HR1.out (ji17) p287 q287
        cases e287
        replace hx287_0 := zh HB hx287_0; replace hx287_1 := zh HB hx287_1; replace p287 := eq_true p287; replace q287 := eq_true q287; go_wp2
        repeat (go_quiet (fail); try go_wp2)
        go_roundg k2
        case measure => have := HJ4.out; have := HK2.out; omega
        case rel => exact ⟨(wrap64 (x8_2 + 1)), zs, H', ⟨by have := HJ4.out; have := HK2.out; omega⟩, ⟨zb⟩⟩
       ·rw [if_neg c20] at H
        have c20b0 : (((rd_T59 l0 (ji14)).f0) == ((rd_T59 l1 (ji17)).f0) && ((((rd_T59 l0 (ji14)).f1).toList) == (((rd_T59 l1 (ji17)).f1).toList))) = false := (by simpa using c20)
        (try (have c20b1 : decide (((rd_T59 l0 (ji14)).f0) = ((rd_T59 l1 (ji17)).f0) && ((((rd_T59 l0 (ji14)).f1).toList) == (((rd_T59 l1 (ji17)).f1).toList))) = false := by simpa using c20))
        (try (have c20b2 : (((rd_T59 l0 (ji14)).f0) == ((rd_T59 l1 (ji17)).f0) && ((((rd_T59 l0 (ji14)).f1).toList) == (((rd_T59 l1 (ji17)).f1).toList))) = false := by simpa using c20))
        (try (have c20b3 : ¬ (((rd_T59 l0 (ji14)).f0) = ((rd_T59 l1 (ji17)).f0) && ((((rd_T59 l0 (ji14)).f1).toList) == (((rd_T59 l1 (ji17)).f1).toList))) := by simpa using c20))
        clear c20; simp only [Option.some.injEq, Prod.mk.injEq] at H; obtain ⟨rfl, rfl, rfl⟩ := H; have p286 : 0 ≤ ((ji14) : Int) := zt; have q286 : (ji14) < (l0.length : Int) := zt; obtain ⟨ad286, e286, hx286_0, hx286_1⟩ := at_T59 HR0.out (ji14) p286 q286
        cases e286
        replace hx286_0 := zh HB hx286_0; replace hx286_1 := zh HB hx286_1; replace p286 := eq_true p286; replace q286 := eq_true q286; have p287 : 0 ≤ ((ji17) : Int) := zt; have q287 : (ji17) < (l1.length : Int) := zt; obtain ⟨ad287, e287, hx287_0, hx287_1⟩ := at_T59 HR1.out (ji17) p287 q287
        cases e287
        replace hx287_0 := zh HB hx287_0; replace hx287_1 := zh HB hx287_1; replace p287 := eq_true p287; replace q287 := eq_true q287; go_wp2
        repeat (go_quiet (fail); try go_wp2)
        go_ret3
        exact ⟨by first | rfl | (simp [errW_none, errW_some] <;> rfl) | (simp only [← hji3, ← hji12, ← hji14, ← hji17]; first | rfl | (simp [errW_none, errW_some] <;> rfl)) | (simp [*, errW_none, errW_some] <;> rfl), zb⟩
      ·rw [if_neg c13] at H; have c13b0 := decide_eq_false c13; clear c13; simp only [Option.some.injEq, Prod.mk.injEq] at H; obtain ⟨rfl, rfl, rfl⟩ := H; go_wp2
       repeat (go_quiet (fail); try go_wp2)
       go_ret3
       exact ⟨by first | rfl | (simp [errW_none, errW_some] <;> rfl) | (simp only [← hji3, ← hji12]; first | rfl | (simp [errW_none, errW_some] <;> rfl)) | (simp [*, errW_none, errW_some] <;> rfl), zb⟩

/-! ### rope_Invert: function 28 -/
def rope_Invert.l0 : Nat → ByteArray → List (S39) → Int → List (S39) → Int → Int → Option ((List (S39)) × Int)
 | 0, _, _, _, _, _, _ => none
 | k + 1, x0, x7, x8, x17, x18, x19 => if x19 < x18 then (if 0 ≤ x19 then (if x19 < (x17.length : Int) then (if 0 ≤ ((rd_T39 x17 x19).f0) then (if ((rd_T39 x17 x19).f0) ≤ ((rd_T39 x17 x19).f1) then (if ((rd_T39 x17 x19).f1) ≤ (x0.size : Int) then (if x7.length < 4398046511104 then (rope_Invert.l0 k x0 (x7 ++ [(⟨wrap64 (((rd_T39 x17 x19).f0) + x8), wrap64 ((wrap64 (((rd_T39 x17 x19).f0) + x8)) + (((rd_T39 x17 x19).f2).size : Int)), x0.extract (((rd_T39 x17 x19).f0) : Int).toNat (((rd_T39 x17 x19).f1) : Int).toNat⟩ : S39)]) (wrap64 (x8 + (wrap64 ((((rd_T39 x17 x19).f2).size : Int) - (wrap64 (((rd_T39 x17 x19).f1) - ((rd_T39 x17 x19).f0))))))) x17 x18 (wrap64 (x19 + 1))) else (none)) else (none)) else (none)) else (none)) else (none)) else (none)) else (some (x7, 0))
def rope_Invert.f (k : Nat) (a0 : ByteArray) (l1 : List (S39)) : Option ((List (S39)) × Int) := (rope_Check.f k a0 l1).bind fun t288 => (if t288 = 0 then (rope_Invert.l0 k a0 ([] : List (S39)) 0 l1 (l1.length : Int) 0) else (some (([] : List (S39)), t288)))
theorem rope_Invert.mono_l : ∀ k, (∀ y0 y1 y2 y3 y4 y5, LeO (rope_Invert.l0 k y0 y1 y2 y3 y4 y5) (rope_Invert.l0 (k + 1) y0 y1 y2 y3 y4 y5))
 | 0 => fun _ _ _ _ _ _ r h => by simp [rope_Invert.l0] at h
 | k + 1 => by
  have ih0 := rope_Invert.mono_l k
  (intro y0 y1 y2 y3 y4 y5; unfold rope_Invert.l0); rotate_left
  all_goals repeat' first | (with_reducible exact ih0 _ _ _ _ _ _) | (with_reducible exact rope_Check.mono _ _ _) | (with_reducible exact LeO.refl _) | (with_reducible exact LeO.none _) | (with_reducible refine LeO.ite ?_ ?_) | (with_reducible refine LeO.bind ?_ (fun _ => ?_)) | exact ih0 _ _ _ _ _ _ | exact rope_Check.mono _ _ _ | exact LeO.none _ | refine LeO.ite ?_ ?_ | refine LeO.bind ?_ (fun _ => ?_)
theorem rope_Invert.mono : ∀ a0 a1 k, LeO (rope_Invert.f k a0 a1) (rope_Invert.f (k + 1) a0 a1) := by
 intro a0 a1 k; have ih0 := rope_Invert.mono_l k; unfold rope_Invert.f
 repeat' first
   | (with_reducible exact ih0 _ _ _ _ _ _)
   | (with_reducible exact rope_Check.mono _ _ _)
   | (with_reducible exact LeO.refl _)
   | (with_reducible exact LeO.none _)
   | (with_reducible refine LeO.ite ?_ ?_)
   | (with_reducible refine LeO.bind ?_ (fun _ => ?_))
   | exact ih0 _ _ _ _ _ _
   | exact rope_Check.mono _ _ _
   | exact LeO.none _
   | refine LeO.ite ?_ ?_
   | refine LeO.bind ?_ (fun _ => ?_)
def rope_Invert.T9 : Bool × List (List Nat × List Nat) := (true, [([], []), ([], []), ([1], [1]), ([], []), ([2, 3], [2, 3]), ([], []), ([5], [5]), ([], []), ([6, 7], [6, 7]), ([], []), ([9], [9]), ([10], [10]), ([8, 11], [8, 11]), ([], []), ([], []), ([14], [14]), ([], []), ([16], [16]), ([13, 15, 17], [13, 15, 17]), ([4, 12, 18], [4, 12, 18]), ([19], [19]), ([0, 20], [0, 20]), ([21, 21, 0, 1, 2, 3, 4, 5, 6, 7, 8, 9, 10, 11, 12, 13, 14, 15, 16, 17, 18, 19, 20, 21], [0, 21])])
def rope_Invert.B9 : List Nat := [0, 0, 2, 0, 14, 0, 32, 0, 224, 0, 512, 1536, 4064, 0, 0, 16384, 0, 65536, 253952, 524286, 1048574, 2097151, 4194303]
theorem rope_Invert.tab9 : rtab .any (opsOf Try.f28 9) = rope_Invert.T9 := by kernel_rfl
theorem rope_Invert.bits9 : waitsOk rope_Invert.T9.2 rope_Invert.B9 = true := by kernel_rfl
set_option maxHeartbeats 8000000 in
set_option maxRecDepth 100000 in
theorem rope_Invert.calls (k : Nat) (a0 : ByteArray) (A1 : Option Addr) (c1 : Nat) (l1 : List (S39)) (r1 : List (S39)) (r2 : Int) (w : World) (hr1 : Kd.C k39 w A1 l1.length l1) (hc1 : l1.length ≤ c1) (h : rope_Invert.f k a0 l1 = some (r1, r2)) :
  Calls Try.prog 28 #[.string a0, .slice A1 l1.length c1] w fun e w' => ∃ v0_ : Value, e = .returned (.tuple #[v0_, .int .i64 r2]) ∧ Kd.R k39 39 w' w.heap.size (fun _ => True) v0_ r1 ∧ Below w.heap.size w w' := by
 have hu39 := Try.underlying39; have HR1 := Aside0.mk hr1; have HC1 := Aside0.mk hc1; clear hr1 hc1; have HB := Aside0.mk (Below.refl w.heap.size w); have H : ((rope_Check.f k a0 l1).bind fun t288 => (if t288 = 0 then (rope_Invert.l0 k a0 ([] : List (S39)) 0 l1 (l1.length : Int) 0) else (some (([] : List (S39)), t288)))) = some (r1, r2) := h; clear h; replace H := zo H; obtain ⟨t288, A3, H⟩ := H; by_cases c4 : t288 = 0
 ·rw [if_pos c4] at H; have c4b0 : (t288 == 0) = true := beq_iff_eq.mpr c4; have c4b1 : (t288 != 0) = false := bne_eq_false_iff_eq.mpr c4; clear c4; have H' := Aside0.mk H; clear H; go_enter Try.func28, Try.ntmps28
  go_wp2_with (first | ((with_reducible refine zG 43 rfl ?_); refine zg 13 Try.func43 ((rope_Check.calls k a0 _ _ l1 t288 _ ?side1 ?side2 A3.out).mono ?_); (case side1 => exact zE HR1); (case side2 => exact HC1.out); rintro e w5 ⟨rfl, hb⟩; refine ⟨_, rfl, ?_⟩; replace HB := (zB hb); (try clear hb); (try clear hb2); (try clear hk); (try clear hi)))
  go_loopg [7, 8, 19] k (fun kq v7 v8 v19 w' => ∃ (x7_1 : List (S39)) (x8_1 : Int) (x19_1 : Int), v8 = .int .i64 x8_1 ∧ v19 = .int .i64 x19_1 ∧ Aside0 (rope_Invert.l0 kq a0 x7_1 x8_1 l1 (l1.length : Int) x19_1 = some (r1, r2)) ∧ Aside0 (kq ≤ k) ∧ Aside0 (Kd.R k39 39 w' w.heap.size (fun _ => True) v7 x7_1) ∧ Aside0 (Below w.heap.size w w'))
  case atStart => exact ⟨(([] : List (S39))), (0), (0), zs, zs, H', ⟨Nat.le_refl _⟩, ⟨by first | exact Kd.R_nil _ _ _ _ _ | exact Kd.N_nil _ _ _ _ _ | exact Kd.V_nil _ _ _ _ _ | exact Kd.Q_nil _ _ _ _ _ | exact Kd.S_nil _ _ _ _ _⟩, ⟨zb⟩⟩
  case round =>
   clear H'; obtain ⟨x7_1, x8_1, x19_1, rfl, rfl, HA, HK1, HO_7, HB⟩ := hrel
   cases gk with
   | zero => exact absurd HA.out (by simp [rope_Invert.l0])
   | succ k1 =>
    have H := HA.out; clear HA; simp only [rope_Invert.l0] at H; by_cases c6 : x19_1 < (l1.length : Int)
    ·rw [if_pos c6] at H; have c6b0 := decide_eq_true c6; clear c6; replace H := zi1 H; obtain ⟨c7b0, H⟩ := H; replace H := zi1 H; obtain ⟨c8b0, H⟩ := H; replace H := zi2 H; obtain ⟨c9b0, c9b1, H⟩ := H; replace H := zi2 H; obtain ⟨c10b0, c10b1, H⟩ := H; replace H := zi2 H; obtain ⟨c11b0, c11b1, H⟩ := H; replace H := zi H; obtain ⟨c12, H⟩ := H; have LMc12 := Aside0.mk c12; clear c12
     obtain ⟨y291, hy291⟩ : ∃ y_ : List (S39), y_ = (x7_1 ++ [(⟨wrap64 (((rd_T39 l1 x19_1).f0) + x8_1), wrap64 ((wrap64 (((rd_T39 l1 x19_1).f0) + x8_1)) + (((rd_T39 l1 x19_1).f2).size : Int)), a0.extract (((rd_T39 l1 x19_1).f0) : Int).toNat (((rd_T39 l1 x19_1).f1) : Int).toNat⟩ : S39)]) := ⟨_, rfl⟩
     replace H : (rope_Invert.l0 k1 a0 y291 (wrap64 (x8_1 + (wrap64 ((((rd_T39 l1 x19_1).f2).size : Int) - (wrap64 (((rd_T39 l1 x19_1).f1) - ((rd_T39 l1 x19_1).f0))))))) l1 (l1.length : Int) (wrap64 (x19_1 + 1))) = some (r1, r2) := by first | (rw [hy291]; with_reducible exact H) | (have H2_ := (Option.bind_some _ _).symm.trans H; rw [hy291]; with_reducible exact H2_) | (have H2_ := (Option.bind_some _ _).symm.trans H; with_reducible exact H2_) | with_reducible exact H | (rw [hy291]; exact H) | exact H
     have Ny291 := Aside0.mk hy291; clear hy291; have H' := Aside0.mk H; clear H; have p289 : 0 ≤ (x19_1 : Int) := zt; have q289 : x19_1 < (l1.length : Int) := zt; obtain ⟨ad289, e289, hx289_0, hx289_1, hx289_2⟩ := at_T39 HR1.out x19_1 p289 q289
     cases e289
     replace hx289_0 := zh HB hx289_0; replace hx289_1 := zh HB hx289_1; replace hx289_2 := zh HB hx289_2; replace p289 := eq_true p289; replace q289 := eq_true q289
     try go_wp2_with (first | ((with_reducible refine zD 10 rfl ?_); refine zx 10 #[.int .i64 0, .int .i64 0, .string (⟨#[]⟩ : ByteArray)] 39 ?_; intro gb290 hg w13 hbox hb; replace HO_7 := Aside0.mk (Kd.R_below (Kd.R_elderB (zR HO_7) gb290 (Nat.le_of_eq hg.symm)) hb); have BK290 := Aside0.mk (hbox); have GW290 := (zq hg : Aside0 (w.heap.size ≤ gb290)); have GE290 := GW290; replace HB := (zB hb); clear hb hbox hg; obtain ⟨hcz14_0, hcz14_1, hcz14_2⟩ := zc3 BK290; obtain ⟨hfz14_0, hfz14_1, hfz14_2⟩ := zz3 BK290))
     have n0_ : Aside0 (Kd.R k39 39 (((w13.setCell ⟨gb290, 0, none⟩ (.int .i64 ((rd_T39 l1 x19_1).f0))).setCell ⟨gb290, 1, none⟩ (.int .i64 ((rd_T39 l1 x19_1).f1))).setCell ⟨gb290, 2, none⟩ (.string ((rd_T39 l1 x19_1).f2))) w.heap.size (fun k_ => k_ ≠ gb290) u7 x7_1) := ⟨by (with_reducible repeat (first | apply Kd.R_alloc | apply Kd.R_drewN | apply Kd.R_drew)); exact Kd.R_mono (Kd.R_far (p := ⟨gb290, 2, none⟩) (Kd.R_far (p := ⟨gb290, 1, none⟩) (Kd.R_far (p := ⟨gb290, 0, none⟩) (Kd.R_mono HO_7.out (fun k_ hk => (⟨hk, hk.2⟩ : _ ∧ k_ ≠ gb290))) (fun _ hk => hk.2) (.int .i64 ((rd_T39 l1 x19_1).f0))) (fun _ hk => hk.2) (.int .i64 ((rd_T39 l1 x19_1).f1))) (fun _ hk => hk.2) (.string ((rd_T39 l1 x19_1).f2))) (fun _ hk => hk.1.2)⟩
     have n1_ : Aside0 ((((w13.setCell ⟨gb290, 0, none⟩ (.int .i64 ((rd_T39 l1 x19_1).f0))).setCell ⟨gb290, 1, none⟩ (.int .i64 ((rd_T39 l1 x19_1).f1))).setCell ⟨gb290, 2, none⟩ (.string ((rd_T39 l1 x19_1).f2))).heap[gb290]? = some (.cells #[.int .i64 ((rd_T39 l1 x19_1).f0), .int .i64 ((rd_T39 l1 x19_1).f1), .string ((rd_T39 l1 x19_1).f2)] 39 (0, 0))) := ⟨zw⟩
     have n2_ : Aside0 (Below w.heap.size w (((w13.setCell ⟨gb290, 0, none⟩ (.int .i64 ((rd_T39 l1 x19_1).f0))).setCell ⟨gb290, 1, none⟩ (.int .i64 ((rd_T39 l1 x19_1).f1))).setCell ⟨gb290, 2, none⟩ (.string ((rd_T39 l1 x19_1).f2)))) := ⟨zb⟩
     (try clear HO_7)
     (try clear BK290)
     (try clear HB)
     generalize (((w13.setCell ⟨gb290, 0, none⟩ (.int .i64 ((rd_T39 l1 x19_1).f0))).setCell ⟨gb290, 1, none⟩ (.int .i64 ((rd_T39 l1 x19_1).f1))).setCell ⟨gb290, 2, none⟩ (.string ((rd_T39 l1 x19_1).f2))) = w15 at n0_ n1_ n2_ ⊢; have HO_7 := n0_; have BK290 := n1_; have HB := n2_; clear n0_ n1_ n2_; replace HO_7 := Aside0.mk (Kd.R_drew HO_7.out); replace BK290 := Aside0.mk (blk_drew BK290.out); replace HB := Aside0.mk (below_drew1 HB.out); refine start_ (n := 23) (S := fun w' => w'.cell? ⟨gb290, 0, none⟩ = some (.int .i64 ((rd_T39 l1 x19_1).f0)) ∧ w'.cell? ⟨gb290, 1, none⟩ = some (.int .i64 ((rd_T39 l1 x19_1).f1)) ∧ w'.cell? ⟨gb290, 2, none⟩ = some (.string ((rd_T39 l1 x19_1).f2))) (ds := []) #[false, false, false, false, false, false, false, false, false, false, false, false, false, false, false, false, false, false, false, false, false, false, false] (by kernel_rfl) rfl rfl ⟨(blk_cell BK290.out 0).trans rfl, (blk_cell BK290.out 1).trans rfl, (blk_cell BK290.out 2).trans rfl⟩ (fun hHeld => ?_); refine with_tabW rope_Invert.tab9 rope_Invert.bits9 (fun HT_ HW_ => ?_); generalize w15.drew = w16 at HO_7 BK290 HB hHeld ⊢; refine zp 0 23 HT_ ?_; refine zp 1 24 HT_ ?_; refine zp 3 26 HT_ ?_; refine zp 5 28 HT_ ?_; refine zp 7 30 HT_ ?_; refine zp 9 32 HT_ ?_; refine zp 13 36 HT_ ?_; refine zp 14 37 HT_ ?_; refine zp 16 39 HT_ ?_; refine zy 2 25 HT_ HW_ hHeld ?_; refine zp 4 27 HT_ ?_; refine zy 6 29 HT_ HW_ hHeld ?_; refine zp 8 31 HT_ ?_; refine zy 10 33 HT_ HW_ hHeld ?_; refine zp 11 34 HT_ ?_; refine zp 12 35 HT_ ?_; refine zy 15 38 HT_ HW_ hHeld ?_; refine zy 17 40 HT_ HW_ hHeld ?_; refine zp 18 41 HT_ ?_; refine zp 19 42 HT_ ?_; refine one_ (i := 20) (N := some 43) #[true, true, true, true, true, true, true, true, true, true, true, true, true, true, true, true, true, true, true, true, true, false, false] rfl rfl (one_of HT_.out (by kernel_rfl)) (by decide) (fun K hK => ?_); refine value_ (w1 := ?_) (v := ?_) (by rfl) rfl ?_ ?_; rotate_left 2
     ·go_simp
      constructor
      ·rfl
      ·rfl
     refine hK.out _ _ ⟨(blk_cell (blk_alloc BK290.out _) 0).trans rfl, (blk_cell (blk_alloc BK290.out _) 1).trans rfl, (blk_cell (blk_alloc BK290.out _) 2).trans rfl⟩ (fun hHeld => ?_); clear hK K; refine norm_ (a' := ?_) ?_ ?_; rotate_left
     ·show Act.put _ (some 43) _ = _
      simp only [Act.put, List.setIfInBounds_toArray, List.set_cons_zero, List.set_cons_succ, i64_w, i32_w]; rfl
     refine one_ (i := 21) (N := some 44) #[true, true, true, true, true, true, true, true, true, true, true, true, true, true, true, true, true, true, true, true, true, true, false] rfl rfl (one_of HT_.out (by kernel_rfl)) (by decide) (fun K hK => ?_); refine Kd.R_append_step k39 (w0 := w) w.heap.size (by rfl) (.tmp 23) (.tmp 43) 23 39 (.agg #[(.int .i64 0), (.int .i64 0), (.string ⟨#[]⟩)]) 32 rfl Try.underlying23 info39 rfl (by decide) (by omega) u7 x7_1 (⟨wrap64 (((rd_T39 l1 x19_1).f0) + x8_1), wrap64 ((wrap64 (((rd_T39 l1 x19_1).f0) + x8_1)) + (((rd_T39 l1 x19_1).f2).size : Int)), a0.extract (((rd_T39 l1 x19_1).f0) : Int).toNat (((rd_T39 l1 x19_1).f1) : Int).toNat⟩ : S39) [.int .i64 (wrap64 (((rd_T39 l1 x19_1).f0) + x8_1)), .int .i64 (wrap64 ((wrap64 (((rd_T39 l1 x19_1).f0) + x8_1)) + (((rd_T39 l1 x19_1).f2).size : Int))), .string (a0.extract (((rd_T39 l1 x19_1).f0) : Int).toNat (((rd_T39 l1 x19_1).f1) : Int).toNat)] (fun k_ => k_ ≠ gb290) (fun _ => False) rfl rfl ?aP (fun _ hk => hk.elim) ?aF ?aO ?aB ?aS ?aL ?_
     (case aP => exact k39_mkM _ _ _ (⟨wrap64 (((rd_T39 l1 x19_1).f0) + x8_1), wrap64 ((wrap64 (((rd_T39 l1 x19_1).f0) + x8_1)) + (((rd_T39 l1 x19_1).f2).size : Int)), a0.extract (((rd_T39 l1 x19_1).f0) : Int).toNat (((rd_T39 l1 x19_1).f1) : Int).toNat⟩ : S39))
     (case aB => exact zb)
     (case aF => exact (fun k_ hk => Kd.freshB (g := gb290) (o := .cells #[.int .i64 ((rd_T39 l1 x19_1).f0), .int .i64 ((rd_T39 l1 x19_1).f1), .string ((rd_T39 l1 x19_1).f2)] 39 (0, 0)) (Cl.blk BK290.out) k_ hk))
     (case aO => exact (zR HO_7))
     (case aS => exact (below_size zb))
     (case aL => have := LMc12.out; omega)
     intro v292 w17 ho hb hg hat; rw [← Ny291.out] at ho
     replace BK290 := (blk_grown' BK290 hg (Kd.R_away HO_7.out (fun _ hk => hk)))
     replace HB := Aside0.mk (hb); have HO293 := Aside0.mk (ho); clear HO_7 ho hb hg hat; refine hK.out _ _ ⟨(blk_cell BK290.out 0).trans rfl, (blk_cell BK290.out 1).trans rfl, (blk_cell BK290.out 2).trans rfl⟩ (fun hHeld => ?_); clear hK K; refine norm_ (a' := ?_) ?_ ?_; rotate_left
     ·show Act.put _ (some 44) _ = _
      simp only [Act.put, List.setIfInBounds_toArray, List.set_cons_zero, List.set_cons_succ, i64_w, i32_w]; rfl
     refine zp 22 7 HT_ ?_; refine done_ (done_of HT_.out (by kernel_rfl)) ?_; obtain ⟨hcz18_0, hcz18_1, hcz18_2⟩ := zc3 BK290; obtain ⟨hfz18_0, hfz18_1, hfz18_2⟩ := zz3 BK290
     try go_wp2
     go_roundg k1
     case measure => have := HK1.out; omega
     case rel => exact ⟨(y291), (wrap64 (x8_1 + (wrap64 ((((rd_T39 l1 x19_1).f2).size : Int) - (wrap64 (((rd_T39 l1 x19_1).f1) - ((rd_T39 l1 x19_1).f0))))))), (wrap64 (x19_1 + 1)), zs, zs, H', zk, ⟨by (with_reducible repeat (first | apply Kd.R_alloc | apply Kd.R_drewN | apply Kd.R_drew)); exact Kd.R_mono HO293.out (fun _ hk => trivial)⟩, ⟨zb⟩⟩
    ·rw [if_neg c6] at H; have c6b0 := decide_eq_false c6; clear c6; simp only [Option.some.injEq, Prod.mk.injEq] at H; obtain ⟨rfl, rfl⟩ := H; go_wp2
     go_ret2
     exact ⟨_, zr, by (with_reducible repeat (first | apply Kd.R_alloc | apply Kd.R_drewN | apply Kd.R_drew)); exact HO_7.out, zb⟩
 ·rw [if_neg c4] at H; have c4b0 : (t288 == 0) = false := beq_eq_false_iff_ne.mpr c4; have c4b1 : (t288 != 0) = true := bne_iff_ne.mpr c4; simp only [Option.some.injEq, Prod.mk.injEq] at H; obtain ⟨rfl, rfl⟩ := H; go_enter Try.func28, Try.ntmps28
  go_wp2_with (first | ((with_reducible refine zG 43 rfl ?_); refine zg 13 Try.func43 ((rope_Check.calls k a0 _ _ l1 t288 _ ?side1 ?side2 A3.out).mono ?_); (case side1 => exact zE HR1); (case side2 => exact HC1.out); rintro e w19 ⟨rfl, hb⟩; refine ⟨_, rfl, ?_⟩; replace HB := (zB hb); (try clear hb); (try clear hb2); (try clear hk); (try clear hi)))
  go_ret2
  exact ⟨_, zr, by first | exact Kd.R_nil _ _ _ _ _ | exact Kd.N_nil _ _ _ _ _ | exact Kd.V_nil _ _ _ _ _ | exact Kd.Q_nil _ _ _ _ _ | exact Kd.S_nil _ _ _ _ _, zb⟩

end Go.Proofs.Ytahcpappailjgaa.P

namespace Go.Proofs.Ytahcpappailjgaa.P
open Go.RowKit Go.Proofs.YtahcpappailjgaaW.PrintWords Go.Proofs.YtahcpappailjgaaW.PrintLast Go.Proofs.YtahcpappailjgaaW.PrintMore
attribute [local go_sem] max2_int min2_int max_two min_two max_three min_three max_four min_four
set_option linter.unusedVariables false
set_option linter.unusedSimpArgs false

def token_joined.go : List (S59) → List UInt8 → Option (ByteArray × Bool)
 | [], acc => some (⟨acc.toArray⟩, decide ((acc.length : Int) ≤ 20000))
 | t :: r, acc => if (acc.length : Int) > 20000 then some (⟨#[]⟩, false) else if (t.f1.size : Int) > 20000 then some (⟨#[]⟩, false) else token_joined.go r (acc ++ t.f1.data.toList)
def token_joined.f (l0 : List (S59)) : Option (ByteArray × Bool) := token_joined.go l0 []
set_option maxHeartbeats 8000000 in
set_option maxRecDepth 100000 in
theorem token_joined.calls (A0 : Option Addr) (c0 : Nat) (l0 : List (S59)) (r1 : ByteArray) (r2 : Bool) (w : World) (hr0 : Kd.C k59 w A0 l0.length l0) (hc0 : l0.length ≤ c0) (h : token_joined.f l0 = some (r1, r2)) :
  Calls Try.prog 48 #[.slice A0 l0.length c0] w fun e w' => e = .returned (.tuple #[.string r1, .bool r2]) ∧ Below w.heap.size w w' := by
 have hu := Try.underlying59; have HH := Aside0.mk (show token_joined.go l0 [] = some (r1, r2) from h); have HR := Aside0.mk hr0; have hB0 : Below w.heap.size w (w.alloc (.cells #[.pointer none, .slice none 0 0] 79)) := below_alloc (Below.refl _ _) _; have HB0 := Aside0.mk hB0; have HI0 := Aside0.mk (show Bld.IsB w.heap.size w.heap.size [] (w.alloc (.cells #[.pointer none, .slice none 0 0] 79)) from Bld.IsB.new (Nat.le_refl _)); clear h hr0 hB0; go_enter Try.func48, Try.ntmps48; go_wp2_with fail
 go_loopg [9] l0.length (fun kq v9 w' => ∃ (i : Nat) (acc : List UInt8), v9 = .int .i64 (i : Int) ∧ Aside0 (i + kq = l0.length) ∧ Aside0 (token_joined.go (l0.drop i) acc = some (r1, r2)) ∧ Aside0 (acc.length ≤ 40000) ∧ Aside0 (Bld.IsB w.heap.size w.heap.size acc w') ∧ Aside0 (Below w.heap.size w w'))
 case atStart => exact ⟨0, [], rfl, ⟨by omega⟩, HH, ⟨by simp⟩, HI0, HB0⟩
 case round =>
  clear HH HI0 HB0; obtain ⟨i, acc, rfl, HK, HA, HL, HI, HB⟩ := hrel; have hmax : l0.length ≤ 9223372036854775807 := HR.out.2.1; by_cases hlt : i < l0.length
  ·have hd : decide ((i : Int) < (l0.length : Int)) = true := decide_eq_true (by omega); have H := HA.out; rw [List.drop_eq_getElem_cons hlt] at H; simp only [token_joined.go] at H
   have hrd : rd_T59 l0 (i : Int) = l0[i] := (by simp [rd_T59, hlt])
   obtain ⟨ad, e, hx0, hx1⟩ := at_T59 HR.out (i : Int) (by omega) (by omega); rw [hrd, Int.toNat_natCast] at hx0 hx1
   cases e
   replace hx0 := zh HB hx0; replace hx1 := zh HB hx1; clear hrd HA; generalize l0[i] = x at *; have HI1 := Aside0.mk (HI.out.alloc (.cells #[.int .i64 x.f0, .string x.f1] 59)); have HB1 := Aside0.mk (below_alloc HB.out (.cells #[.int .i64 x.f0, .string x.f1] 59)); by_cases c1 : (acc.length : Int) > 20000
   ·rw [if_pos c1] at H; simp only [Option.some.injEq, Prod.mk.injEq] at H; obtain ⟨rfl, rfl⟩ := H; have c1b : decide ((20000 : Int) < (acc.length : Int)) = true := decide_eq_true (by omega)
    have hle : ((Lib.byteCells acc).length : Int) = (acc.length : Int) := (by rw [Bld.byteCells_length])
    clear c1
    go_wp2_with (go_at_call 73; refine (Try.Builder_Len_f w.heap.size w.heap.size (Lib.byteCells acc) _ HI1.out).mono ?_; rintro e w2 ⟨rfl, rfl⟩; rw [hle])
    go_ret2
    exact ⟨rfl, HB1.out⟩
   ·rw [if_neg c1] at H; have c1b : decide ((20000 : Int) < (acc.length : Int)) = false := decide_eq_false (by omega)
    have hle : ((Lib.byteCells acc).length : Int) = (acc.length : Int) := (by rw [Bld.byteCells_length])
    by_cases c2 : (x.f1.size : Int) > 20000
    ·rw [if_pos c2] at H; simp only [Option.some.injEq, Prod.mk.injEq] at H; obtain ⟨rfl, rfl⟩ := H; have c2b : decide ((20000 : Int) < (x.f1.size : Int)) = true := decide_eq_true (by omega); clear c1 c2
     go_wp2_with (go_at_call 73; refine (Try.Builder_Len_f w.heap.size w.heap.size (Lib.byteCells acc) _ HI1.out).mono ?_; rintro e w2 ⟨rfl, rfl⟩; rw [hle])
     go_ret2
     exact ⟨rfl, HB1.out⟩
    ·rw [if_neg c2] at H; have c2b : decide ((20000 : Int) < (x.f1.size : Int)) = false := decide_eq_false (by omega); have HA2 := Aside0.mk H
     have hac : (acc ++ x.f1.data.toList).length ≤ 40000 := (by rw [List.length_append, Ut.size_data]; omega)
     have HAC := Aside0.mk hac
     have hlen : acc.length + x.f1.size ≤ 140737488355328 := (by omega)
     clear c1 c2 H hac
     cases gk with
     | zero => exact absurd hlt (by have := HK.out; omega)
     | succ kq' =>
     go_wp2_with (first | (go_at_call 73; refine (Try.Builder_Len_f w.heap.size w.heap.size (Lib.byteCells acc) _ HI1.out).mono ?_; rintro e w2 ⟨rfl, rfl⟩; rw [hle]) | (go_at_call 44; refine (Bld.write w.heap.size w.heap.size acc x.f1 _ HI1.out hlen (below_size HB1.out)).mono ?_; rintro e w3 ⟨rfl, hI3, hb3, _⟩; have HI3 := Aside0.mk hI3; have HB3 := Aside0.mk (HB1.out.trans hb3); clear hI3 hb3))
     go_roundg kq'
     case measure => omega
     case rel => exact ⟨i + 1, _, by go_num, ⟨by have := HK.out; omega⟩, HA2, HAC, HI3, HB3⟩
  ·have hd : decide ((i : Int) < (l0.length : Int)) = false := decide_eq_false (by omega); have H := HA.out; rw [List.drop_of_length_le (by have := HK.out; omega)] at H; simp only [token_joined.go, Option.some.injEq, Prod.mk.injEq] at H; obtain ⟨rfl, rfl⟩ := H
   have hle : ((Lib.byteCells acc).length : Int) = (acc.length : Int) := (by rw [Bld.byteCells_length])
   go_wp2_with (first | (go_at_call 45; refine (Try.Builder_String_any_f w.heap.size w.heap.size acc _ HI.out (below_size HB.out)).mono ?_; rintro e w2 ⟨rfl, hI2, hb2⟩; have HI2 := Aside0.mk hI2; have HB2 := Aside0.mk (HB.out.trans hb2); clear hI2 hb2) | (go_at_call 73; refine (Try.Builder_Len_f w.heap.size w.heap.size (Lib.byteCells acc) _ HI2.out).mono ?_; rintro e w3 ⟨rfl, rfl⟩; rw [hle]))
   go_ret2
   exact ⟨rfl, HB2.out⟩

end Go.Proofs.Ytahcpappailjgaa.P

namespace Go.Proofs.Ytahcpappailjgaa.P
open Go.RowKit Go.Proofs.YtahcpappailjgaaW.PrintWords Go.Proofs.YtahcpappailjgaaW.PrintLast Go.Proofs.YtahcpappailjgaaW.PrintMore
attribute [local go_sem] max2_int min2_int max_two min_two max_three min_three max_four min_four
set_option linter.unusedVariables false
set_option linter.unusedSimpArgs false

attribute [local go_sem high] eqA59
/-! ### api_Token_49: function 49 -/
def api_Token_49.l0 : Nat → List (S59) → List (S59) → Int → Int → Option (Bool)
 | 0, _, _, _, _ => none
 | k + 1, x0, x1, x12, x13 => if x13 < x12 then (if 0 ≤ x13 then (if x13 < (x0.length : Int) then (if x13 < (x1.length : Int) then (if (!(((rd_T59 x0 x13).f0) == ((rd_T59 x1 x13).f0)) || (!((((rd_T59 x0 x13).f1).toList) == (((rd_T59 x1 x13).f1).toList)))) = true then (some false) else (api_Token_49.l0 k x0 x1 x12 (wrap64 (x13 + 1)))) else (none)) else (none)) else (none)) else (some true)
def api_Token_49.f (k : Nat) (l0 : List (S59)) (l1 : List (S59)) : Option (Bool) := if (l0.length : Int) = (l1.length : Int) then (api_Token_49.l0 k l0 l1 (l0.length : Int) 0) else (some false)
theorem api_Token_49.mono_l : ∀ k, (∀ y0 y1 y2 y3, LeO (api_Token_49.l0 k y0 y1 y2 y3) (api_Token_49.l0 (k + 1) y0 y1 y2 y3))
 | 0 => fun _ _ _ _ r h => by simp [api_Token_49.l0] at h
 | k + 1 => by
  have ih0 := api_Token_49.mono_l k
  (intro y0 y1 y2 y3; unfold api_Token_49.l0); rotate_left
  all_goals repeat' first | (with_reducible exact ih0 _ _ _ _) | (with_reducible exact LeO.refl _) | (with_reducible exact LeO.none _) | (with_reducible refine LeO.ite ?_ ?_) | (with_reducible refine LeO.bind ?_ (fun _ => ?_)) | exact ih0 _ _ _ _ | exact LeO.none _ | refine LeO.ite ?_ ?_ | refine LeO.bind ?_ (fun _ => ?_)
theorem api_Token_49.mono : ∀ a0 a1 k, LeO (api_Token_49.f k a0 a1) (api_Token_49.f (k + 1) a0 a1) := by
 intro a0 a1 k; have ih0 := api_Token_49.mono_l k; unfold api_Token_49.f
 repeat' first
   | (with_reducible exact ih0 _ _ _ _)
   | (with_reducible exact LeO.refl _)
   | (with_reducible exact LeO.none _)
   | (with_reducible refine LeO.ite ?_ ?_)
   | (with_reducible refine LeO.bind ?_ (fun _ => ?_))
   | exact ih0 _ _ _ _
   | exact LeO.none _
   | refine LeO.ite ?_ ?_
   | refine LeO.bind ?_ (fun _ => ?_)
set_option maxHeartbeats 8000000 in
set_option maxRecDepth 100000 in
theorem api_Token_49.calls (k : Nat) (A0 : Option Addr) (c0 : Nat) (l0 : List (S59)) (A1 : Option Addr) (c1 : Nat) (l1 : List (S59)) (r : Bool) (w : World) (hr0 : Kd.C k59 w A0 l0.length l0) (hc0 : l0.length ≤ c0) (hr1 : Kd.C k59 w A1 l1.length l1) (hc1 : l1.length ≤ c1) (h : api_Token_49.f k l0 l1 = some r) :
  Calls Try.prog 49 #[.slice A0 l0.length c0, .slice A1 l1.length c1] w fun e w' => e = .returned (.bool r) ∧ Drawn0 w w' := by
 have hu59 := Try.underlying59; have HR0 := Aside0.mk hr0; have HC0 := Aside0.mk hc0; clear hr0 hc0; have HR1 := Aside0.mk hr1; have HC1 := Aside0.mk hc1; clear hr1 hc1; have H : (if (l0.length : Int) = (l1.length : Int) then (api_Token_49.l0 k l0 l1 (l0.length : Int) 0) else (some false)) = some r := h; clear h; by_cases c3 : (l0.length : Int) = (l1.length : Int)
 ·rw [if_pos c3] at H; have c3b0 : ((l0.length : Int) == (l1.length : Int)) = true := beq_iff_eq.mpr c3; have c3b1 : ((l0.length : Int) != (l1.length : Int)) = false := bne_eq_false_iff_eq.mpr c3
  have c3b2 : (l0.length == l1.length) = true := (by first | simpa using c3 | (simp at c3 ⊢; omega))
  clear c3; have H' := Aside0.mk H; clear H; go_enter Try.func49, Try.ntmps49; go_wp2
  repeat (go_quiet (fail); try go_wp2)
  go_loopg [13] k (fun kq v13 w' => ∃ (x13_1 : Int), v13 = .int .i64 x13_1 ∧ Aside0 (api_Token_49.l0 kq l0 l1 (l0.length : Int) x13_1 = some r) ∧ Aside0 (kq ≤ k) ∧ Drawn0 w w')
  case atStart => exact ⟨(0), zs, H', ⟨Nat.le_refl _⟩, zX⟩
  case round =>
   clear H'; obtain ⟨x13_1, rfl, HA, HK1, ⟨m1, rfl⟩⟩ := hrel
   cases gk with
   | zero => exact absurd HA.out (by simp [api_Token_49.l0])
   | succ k1 =>
    have H := HA.out; clear HA; simp only [api_Token_49.l0] at H; by_cases c4 : x13_1 < (l0.length : Int)
    ·rw [if_pos c4] at H; have c4b0 := decide_eq_true c4; clear c4; replace H := zi1 H; obtain ⟨c5b0, H⟩ := H; replace H := zi1 H; obtain ⟨c6b0, H⟩ := H; replace H := zi1 H; obtain ⟨c7b0, H⟩ := H; by_cases c8 : (!(((rd_T59 l0 x13_1).f0) == ((rd_T59 l1 x13_1).f0)) || (!((((rd_T59 l0 x13_1).f1).toList) == (((rd_T59 l1 x13_1).f1).toList)))) = true
     ·rw [if_pos c8] at H; have c8b0 : (!(((rd_T59 l0 x13_1).f0) == ((rd_T59 l1 x13_1).f0)) || (!((((rd_T59 l0 x13_1).f1).toList) == (((rd_T59 l1 x13_1).f1).toList)))) = true := c8; clear c8; obtain rfl := Option.some.inj H; have p140 : 0 ≤ (x13_1 : Int) := zt; have q140 : x13_1 < (l0.length : Int) := zt; obtain ⟨ad140, e140, hx140_0, hx140_1⟩ := at_T59 HR0.out x13_1 p140 q140
      cases e140
      replace p140 := eq_true p140; replace q140 := eq_true q140; have p141 : 0 ≤ (x13_1 : Int) := zt; have q141 : x13_1 < (l1.length : Int) := zt; obtain ⟨ad141, e141, hx141_0, hx141_1⟩ := at_T59 HR1.out x13_1 p141 q141
      cases e141
      replace p141 := eq_true p141; replace q141 := eq_true q141; go_wp2
      repeat (go_quiet (fail); try go_wp2)
      go_ret; exact ⟨zs, zX⟩
     ·rw [if_neg c8] at H
      have c8b0 : (!(((rd_T59 l0 x13_1).f0) == ((rd_T59 l1 x13_1).f0)) || (!((((rd_T59 l0 x13_1).f1).toList) == (((rd_T59 l1 x13_1).f1).toList)))) = false := (by simpa using c8)
      clear c8; have H' := Aside0.mk H; clear H; have p140 : 0 ≤ (x13_1 : Int) := zt; have q140 : x13_1 < (l0.length : Int) := zt; obtain ⟨ad140, e140, hx140_0, hx140_1⟩ := at_T59 HR0.out x13_1 p140 q140
      cases e140
      replace p140 := eq_true p140; replace q140 := eq_true q140; have p141 : 0 ≤ (x13_1 : Int) := zt; have q141 : x13_1 < (l1.length : Int) := zt; obtain ⟨ad141, e141, hx141_0, hx141_1⟩ := at_T59 HR1.out x13_1 p141 q141
      cases e141
      replace p141 := eq_true p141; replace q141 := eq_true q141; go_wp2
      repeat (go_quiet (fail); try go_wp2)
      go_roundg k1
      case measure => have := HK1.out; omega
      case rel => exact ⟨(wrap64 (x13_1 + 1)), zs, H', zk, zX⟩
    ·rw [if_neg c4] at H; have c4b0 := decide_eq_false c4; clear c4; obtain rfl := Option.some.inj H; go_wp2
     repeat (go_quiet (fail); try go_wp2)
     go_ret; exact ⟨zs, zX⟩
 ·rw [if_neg c3] at H; have c3b0 : ((l0.length : Int) == (l1.length : Int)) = false := beq_eq_false_iff_ne.mpr c3; have c3b1 : ((l0.length : Int) != (l1.length : Int)) = true := bne_iff_ne.mpr c3
  have c3b2 : (l0.length == l1.length) = false := (by first | simpa using c3 | (simp at c3 ⊢; omega))
  obtain rfl := Option.some.inj H; go_enter Try.func49, Try.ntmps49; go_wp2
  repeat (go_quiet (fail); try go_wp2)
  go_ret; exact ⟨zs, zX⟩

/-! ### token_Text: function 30 -/
def token_Text.j0 : Nat → List (S59) → ByteArray → Bool → Option (ByteArray × Int)
 | 0, _, _, _ => none
 | k + 1, x0, x4, x19 => if x19 = true then (some ((⟨#[]⟩ : ByteArray), 3)) else ((token_Lex.f k x4).bind fun bt144 => ((api_Token_49.f k bt144.1 x0).bind fun t148 => (if t148 = true then (some (x4, 0)) else (some ((⟨#[]⟩ : ByteArray), 4)))))
def token_Text.f (k : Nat) (l0 : List (S59)) : Option (ByteArray × Int) := (token_joined.f l0).bind fun bt142 => (if bt142.2 = true then (token_Text.j0 k l0 bt142.1 (decide ((l0.length : Int) > 20000))) else (token_Text.j0 k l0 bt142.1 true))
theorem token_Text.mono_l : ∀ k, (∀ y0 y1 y2, LeO (token_Text.j0 k y0 y1 y2) (token_Text.j0 (k + 1) y0 y1 y2))
 | 0 => fun _ _ _ r h => by simp [token_Text.j0] at h
 | k + 1 => by
  have ih0 := token_Text.mono_l k
  (intro y0 y1 y2; unfold token_Text.j0); rotate_left
  all_goals repeat' first | (with_reducible exact ih0 _ _ _) | (with_reducible exact api_Token_49.mono _ _ _) | (with_reducible exact token_Lex.mono _ _) | (with_reducible exact LeO.refl _) | (with_reducible exact LeO.none _) | (with_reducible refine LeO.ite ?_ ?_) | (with_reducible refine LeO.bind ?_ (fun _ => ?_)) | exact ih0 _ _ _ | exact api_Token_49.mono _ _ _ | exact token_Lex.mono _ _ | exact LeO.none _ | refine LeO.ite ?_ ?_ | refine LeO.bind ?_ (fun _ => ?_)
theorem token_Text.mono : ∀ a0 k, LeO (token_Text.f k a0) (token_Text.f (k + 1) a0) := by
 intro a0 k; have ih0 := token_Text.mono_l k; unfold token_Text.f
 repeat' first
   | (with_reducible exact ih0 _ _ _)
   | (with_reducible exact api_Token_49.mono _ _ _)
   | (with_reducible exact token_Lex.mono _ _)
   | (with_reducible exact LeO.refl _)
   | (with_reducible exact LeO.none _)
   | (with_reducible refine LeO.ite ?_ ?_)
   | (with_reducible refine LeO.bind ?_ (fun _ => ?_))
   | exact ih0 _ _ _
   | exact api_Token_49.mono _ _ _
   | exact token_Lex.mono _ _
   | exact LeO.none _
   | refine LeO.ite ?_ ?_
   | refine LeO.bind ?_ (fun _ => ?_)
set_option maxHeartbeats 8000000 in
set_option maxRecDepth 100000 in
theorem token_Text.calls (k : Nat) (A0 : Option Addr) (c0 : Nat) (l0 : List (S59)) (r1 : ByteArray) (r2 : Int) (w : World) (hr0 : Kd.C k59 w A0 l0.length l0) (hc0 : l0.length ≤ c0) (h : token_Text.f k l0 = some (r1, r2)) :
  Calls Try.prog 30 #[.slice A0 l0.length c0] w fun e w' => e = .returned (.tuple #[.string r1, .int .i64 r2]) ∧ Below w.heap.size w w' := by
 have HR0 := Aside0.mk hr0; have HC0 := Aside0.mk hc0; clear hr0 hc0; have HB := Aside0.mk (Below.refl w.heap.size w); have H : ((token_joined.f l0).bind fun bt142 => (if bt142.2 = true then (token_Text.j0 k l0 bt142.1 (decide ((l0.length : Int) > 20000))) else (token_Text.j0 k l0 bt142.1 true))) = some (r1, r2) := h; clear h; replace H := Option.bind_eq_some_iff.mp H; obtain ⟨⟨t142, t143⟩, A20, H⟩ := H; replace H : (if t143 = true then (token_Text.j0 k l0 t142 (decide ((l0.length : Int) > 20000))) else (token_Text.j0 k l0 t142 true)) = some (r1, r2) := H; have A2 := Aside0.mk A20; clear A20; have HC3 := Aside0.mk H; clear H; go_enter Try.func30, Try.ntmps30
 go_upto_region 2 with (first | ((with_reducible refine zG 48 rfl ?_); refine zg 10 Try.func48 ((token_joined.calls _ _ l0 t142 t143 _ ?side1 ?side2 A2.out).mono ?_); (case side1 => exact zE HR0); (case side2 => exact HC0.out); rintro e w4 ⟨rfl, hb⟩; refine ⟨_, rfl, ?_⟩; replace HB := (zB hb); (try clear hb); (try clear hb2); (try clear hk); (try clear hi)))
 (try simp only [Act.put, List.setIfInBounds_toArray, List.set_cons_zero, List.set_cons_succ])
 go_cut [19] (fun v19 wc => ∃ (kq : Nat) (x19_2 : Bool), v19 = .bool x19_2 ∧ Aside0 (token_Text.j0 kq l0 t142 x19_2 = some (r1, r2)) ∧ Aside0 (kq ≤ k) ∧ Aside0 (Below w.heap.size w wc))
 case first =>
  have H := HC3.out; clear HC3; by_cases c5 : t143 = true
  ·subst c5; rw [if_pos rfl] at H; have H' := Aside0.mk H; clear H; go_wp2
   go_meet
   case rel => exact ⟨_, (decide ((l0.length : Int) > 20000)), zs, H', ⟨by first | omega | exact Nat.le_refl _⟩, ⟨zb⟩⟩
  ·replace c5 := Bool.eq_false_iff.mpr c5; subst c5; replace H := zf H; have H' := Aside0.mk H; clear H; go_wp2
   go_meet
   case rel => exact ⟨_, (true), zs, H', ⟨by first | omega | exact Nat.le_refl _⟩, ⟨zb⟩⟩
 case rest =>
  clear HC3; obtain ⟨kq, x19_2, rfl, HA, HJ2, HB⟩ := hcut
  cases kq with
  | zero => exact absurd HA.out (by simp [token_Text.j0])
  | succ kj2 =>
   have H := HA.out; clear HA; simp only [token_Text.j0] at H; by_cases c6 : x19_2 = true
   ·subst c6; rw [if_pos rfl] at H; simp only [Option.some.injEq, Prod.mk.injEq] at H; obtain ⟨rfl, rfl⟩ := H; go_wp2
    go_ret2
    exact ⟨zr, zb⟩
   ·replace c6 := Bool.eq_false_iff.mpr c6; subst c6; replace H := zf H; replace H := Option.bind_eq_some_iff.mp H; obtain ⟨⟨t144, t145⟩, A70, H⟩ := H; replace H : ((api_Token_49.f kj2 t144 l0).bind fun t148 => (if t148 = true then (some (t142, 0)) else (some ((⟨#[]⟩ : ByteArray), 4)))) = some (r1, r2) := H; have A7 := Aside0.mk A70; clear A70; replace H := zo H; obtain ⟨t148, A8, H⟩ := H; by_cases c9 : t148 = true
    ·subst c9; rw [if_pos rfl] at H; simp only [Option.some.injEq, Prod.mk.injEq] at H; obtain ⟨rfl, rfl⟩ := H
     go_wp2_with (first | ((with_reducible refine zG 26 rfl ?_); refine zg 22 Try.func26 ((token_Lex.calls kj2 t142 t144 t145 _ A7.out).mono ?_); rintro e w10 ⟨v146, rfl, ho0, hb⟩; refine ⟨_, rfl, ?_⟩; have HO147 := Aside0.mk (Kd.R_lower ho0 (below_size zb)); replace HB := (zB hb); (try clear hb); (try clear hb2); (try clear hk); (try clear hi); (try clear ho0); obtain ⟨Ao11, co11, eo11⟩ := Kd.R_slice HO147.out; subst eo11) | ((with_reducible refine zG 49 rfl ?_); refine zg 27 Try.func49 ((api_Token_49.calls kj2 _ _ t144 _ _ l0 true _ ?side1 ?side2 ?side3 ?side4 A8.out).mono ?_); (case side1 => exact zE' (Kd.R_reads' HO147.out).2.2); (case side2 => exact (Kd.R_reads' HO147.out).2.1); (case side3 => exact zC HR0); (case side4 => exact HC0.out); rintro e w' ⟨rfl, ⟨nd, rfl⟩⟩; refine ⟨_, rfl, ?_⟩))
     go_ret2
     exact ⟨zr, zb⟩
    ·replace c9 := Bool.eq_false_iff.mpr c9; subst c9; replace H := zf H; simp only [Option.some.injEq, Prod.mk.injEq] at H; obtain ⟨rfl, rfl⟩ := H
     go_wp2_with (first | ((with_reducible refine zG 26 rfl ?_); refine zg 22 Try.func26 ((token_Lex.calls kj2 t142 t144 t145 _ A7.out).mono ?_); rintro e w12 ⟨v146, rfl, ho0, hb⟩; refine ⟨_, rfl, ?_⟩; have HO147 := Aside0.mk (Kd.R_lower ho0 (below_size zb)); replace HB := (zB hb); (try clear hb); (try clear hb2); (try clear hk); (try clear hi); (try clear ho0); obtain ⟨Ao13, co13, eo13⟩ := Kd.R_slice HO147.out; subst eo13) | ((with_reducible refine zG 49 rfl ?_); refine zg 27 Try.func49 ((api_Token_49.calls kj2 _ _ t144 _ _ l0 false _ ?side1 ?side2 ?side3 ?side4 A8.out).mono ?_); (case side1 => exact zE' (Kd.R_reads' HO147.out).2.2); (case side2 => exact (Kd.R_reads' HO147.out).2.1); (case side3 => exact zC HR0); (case side4 => exact HC0.out); rintro e w' ⟨rfl, ⟨nd, rfl⟩⟩; refine ⟨_, rfl, ?_⟩))
     go_ret2
     exact ⟨zr, zb⟩

end Go.Proofs.Ytahcpappailjgaa.P

namespace Go.Proofs.Ytahcpappailjgaa.P
open Go.RowKit Go.Proofs.YtahcpappailjgaaW.PrintWords Go.Proofs.YtahcpappailjgaaW.PrintLast Go.Proofs.YtahcpappailjgaaW.PrintMore
attribute [local go_sem] max2_int min2_int max_two min_two max_three min_three max_four min_four
set_option linter.unusedVariables false
set_option linter.unusedSimpArgs false

def api_Token_31.f (l0 : List (S59)) : Option (List (S59)) := if l0.length < 1000000000 then some l0 else none
theorem api_Token_31.info : (Try.prog.info? 59).map (fun i => (i.zero, i.size, i.bytes)) = some (some (.agg #[.int .i64 0, .string ⟨#[]⟩]), 2, 24) := by kernel_rfl
theorem api_Token_31.lit {α : Type} (d : Kd α) {W : World} {base e : Nat} (hbase : base ≤ W.heap.size) : d.R e (W.alloc (.cells #[] e)) base (fun _ => True) (.slice (some ⟨W.heap.size, 0, none⟩) 0 0) [] := by
 refine ⟨fun _ _ => trivial, [], ?_, Reps.none _ _⟩; have h2 := World.ownsRow_lit (base := base) (e := e) (size := d.sz) W #[] 0 hbase (by unfold maxLen; omega) (by simp)
 simpa using h2
set_option maxHeartbeats 8000000 in
set_option maxRecDepth 100000 in
theorem api_Token_31.calls (A0 : Option Addr) (c0 : Nat) (l0 : List (S59)) (r : List (S59)) (w : World) (hr0 : Kd.C k59 w A0 l0.length l0) (hc0 : l0.length ≤ c0) (h : api_Token_31.f l0 = some r) :
  Calls Try.prog 31 #[.slice A0 l0.length c0] w fun e w' => ∃ v0_ : Value, e = .returned v0_ ∧ Kd.R k59 59 w' w.heap.size (fun _ => True) v0_ r ∧ Below w.heap.size w w' := by
 have hl : l0.length < 1000000000 := by
  unfold api_Token_31.f at h; by_cases q : l0.length < 1000000000
  ·exact q
  ·rw [if_neg q] at h; cases h
 unfold api_Token_31.f at h; rw [if_pos hl] at h; obtain rfl := Option.some.inj h; clear h; have hu := Try.underlying22
 have hq := fun w n => Lib.run_eql_slice_nil (P := Try.prog) w 22 59 A0 n c0 0 0 hu
 have HC := Aside0.mk hr0; clear hr0
 cases A0 with
 | none =>
  have h0 : l0 = [] := by
   rcases Nat.eq_zero_or_pos l0.length with h0 | h0
   ·exact List.length_eq_zero_iff.mp h0
   ·obtain ⟨ad, e, _⟩ := HC.out.2.2 h0
    cases e
  subst h0; go_enter Try.func31, Try.ntmps31; go_wp2; go_ret; exact ⟨_, rfl, Kd.R_nil _ _ _ _ _, Below.refl _ _⟩
 | some ad =>
  have hE := Aside0.mk (api_Token_31.lit k59 (W := w) (base := w.heap.size) (e := 59) (Nat.le_refl _)); have hA := Aside0.mk (below_alloc (Below.refl w.heap.size w) (.cells #[] 59)); have hRR := Aside0.mk (Kd.C_below HC.out hA.out); have HL := Aside0.mk hl; clear HC hl; go_enter Try.func31, Try.ntmps31
  go_wp2_with (first | (at_builtin; refine Kd.R_append_rows k59 (w0 := w) w.heap.size rfl (.tmp 5) (.tmp 6) 22 59 (.agg #[.int .i64 0, .string ⟨#[]⟩]) 24 rfl Try.underlying22 api_Token_31.info rfl (show 0 < 2 by decide) (by omega) (.slice (some ⟨w.heap.size, 0, none⟩) 0 0) [] l0 (some ad) l0.length c0 (fun _ => True) (fun _ => False) rfl rfl hE.out hRR.out (fun x cs h => h) (fun _ hk => hk.elim) (fun _ _ => trivial) hA.out hA.out.size (show (([] : List (S59)).length + l0.length) * 24 ≤ 140737488355328 by have := HL.out; rw [List.length_nil]; omega) ?_; intro v1 w1 hr hb hg hat; have HR := Aside0.mk hr; have HB2 := Aside0.mk hb; clear hr hb hg hat))
  go_ret; exact ⟨_, rfl, by simpa using HR.out, HB2.out⟩

end Go.Proofs.Ytahcpappailjgaa.P

namespace Go.Proofs.Ytahcpappailjgaa.P
open Go.RowKit Go.Proofs.YtahcpappailjgaaW.PrintWords Go.Proofs.YtahcpappailjgaaW.PrintLast Go.Proofs.YtahcpappailjgaaW.PrintMore
attribute [local go_sem] max2_int min2_int max_two min_two max_three min_three max_four min_four
set_option linter.unusedVariables false
set_option linter.unusedSimpArgs false

/-! ### relex_ends: function 32 -/
def relex_ends.l0 : Nat → List Int → Int → List (S59) → Int → Int → Option (List Int)
 | 0, _, _, _, _, _ => none
 | k + 1, x3, x4, x8, x9, x10 => if x10 < x9 then (if 0 ≤ x10 then (if x10 < (x8.length : Int) then (if x3.length < 17592186044416 then (relex_ends.l0 k (x3 ++ [wrap64 (x4 + (((rd_T59 x8 x10).f1).size : Int))]) (wrap64 (x4 + (((rd_T59 x8 x10).f1).size : Int))) x8 x9 (wrap64 (x10 + 1))) else (none)) else (none)) else (none)) else (some x3)
def relex_ends.f (k : Nat) (l0 : List (S59)) : Option (List Int) := relex_ends.l0 k (([0] : List Int)) 0 l0 (l0.length : Int) 0
theorem relex_ends.mono_l : ∀ k, (∀ y0 y1 y2 y3 y4, LeO (relex_ends.l0 k y0 y1 y2 y3 y4) (relex_ends.l0 (k + 1) y0 y1 y2 y3 y4))
 | 0 => fun _ _ _ _ _ r h => by simp [relex_ends.l0] at h
 | k + 1 => by
  have ih0 := relex_ends.mono_l k
  (intro y0 y1 y2 y3 y4; unfold relex_ends.l0); rotate_left
  all_goals repeat' first | (with_reducible exact ih0 _ _ _ _ _) | (with_reducible exact LeO.refl _) | (with_reducible exact LeO.none _) | (with_reducible refine LeO.ite ?_ ?_) | (with_reducible refine LeO.bind ?_ (fun _ => ?_)) | exact ih0 _ _ _ _ _ | exact LeO.none _ | refine LeO.ite ?_ ?_ | refine LeO.bind ?_ (fun _ => ?_)
theorem relex_ends.mono : ∀ a0 k, LeO (relex_ends.f k a0) (relex_ends.f (k + 1) a0) := by
 intro a0 k; have ih0 := relex_ends.mono_l k; unfold relex_ends.f
 repeat' first
   | (with_reducible exact ih0 _ _ _ _ _)
   | (with_reducible exact LeO.refl _)
   | (with_reducible exact LeO.none _)
   | (with_reducible refine LeO.ite ?_ ?_)
   | (with_reducible refine LeO.bind ?_ (fun _ => ?_))
   | exact ih0 _ _ _ _ _
   | exact LeO.none _
   | refine LeO.ite ?_ ?_
   | refine LeO.bind ?_ (fun _ => ?_)
set_option maxHeartbeats 8000000 in
set_option maxRecDepth 100000 in
theorem relex_ends.calls (k : Nat) (A0 : Option Addr) (c0 : Nat) (l0 : List (S59)) (r : List Int) (w : World) (hr0 : Kd.C k59 w A0 l0.length l0) (hc0 : l0.length ≤ c0) (h : relex_ends.f k l0 = some r) :
  Calls Try.prog 32 #[.slice A0 l0.length c0] w fun e w' => ∃ v0_ : Value, e = .returned (v0_) ∧ Kd.R (Kd.int .i64) 3 w' w.heap.size (fun _ => True) v0_ r ∧ Below w.heap.size w w' := by
 have hu59 := Try.underlying59; have HR0 := Aside0.mk hr0; have HC0 := Aside0.mk hc0; clear hr0 hc0; have HB := Aside0.mk (Below.refl w.heap.size w); have H : (relex_ends.l0 k (([0] : List Int)) 0 l0 (l0.length : Int) 0) = some r := h; clear h
 obtain ⟨y149, hy149⟩ : ∃ y_ : List Int, y_ = (([0] : List Int)) := ⟨_, rfl⟩
 replace H : (relex_ends.l0 k y149 0 l0 (l0.length : Int) 0) = some r := by first | (rw [hy149]; with_reducible exact H) | (have H2_ := (Option.bind_some _ _).symm.trans H; rw [hy149]; with_reducible exact H2_) | (have H2_ := (Option.bind_some _ _).symm.trans H; with_reducible exact H2_) | with_reducible exact H | (rw [hy149]; exact H) | exact H
 have Ny149 := Aside0.mk hy149; clear hy149; have H' := Aside0.mk H; clear H; go_enter Try.func32, Try.ntmps32
 go_wp2_with (first | ((with_reducible refine zD 7 rfl ?_); refine Kd.R_lit (Kd.int .i64) _ 3 ?hg (N := 7) ?hd (xs := ([0] : List Int)) (inner := [.int .i64 0]) (ok := fun _ => True) (okp := fun _ => True) ?hr ?hp (fun _ hk => hk) trivial (Below.refl _ _) (Nat.le_refl _) (by simp) ?_; (case hd => rfl); (case hg => rfl); (case hr => first | (go_simp; done) | (go_simp; rfl)); (case hp => exact (Reps.one (show Kd.M (Kd.int .i64) _ _ _ 0 [.int .i64 0] from rfl) (Reps.none _ _))); intro v150 w2 ho3 hb hg_ hnew_; clear hg_ hnew_; (first | rw [← Ny149.out] at ho3 | (simp only [Int.reduceToNat] at ho3; rw [← Ny149.out] at ho3)); have HO151 := Aside0.mk (Kd.R_lower ho3 (below_size zb)); replace HB := (zB hb); clear hb ho3))
 go_loopg [3, 4, 10] k (fun kq v3 v4 v10 w' => ∃ (x3_1 : List Int) (x4_1 : Int) (x10_1 : Int), v4 = .int .i64 x4_1 ∧ v10 = .int .i64 x10_1 ∧ Aside0 (relex_ends.l0 kq x3_1 x4_1 l0 (l0.length : Int) x10_1 = some r) ∧ Aside0 (kq ≤ k) ∧ Aside0 (Kd.R (Kd.int .i64) 3 w' w.heap.size (fun _ => True) v3 x3_1) ∧ Aside0 (Below w.heap.size w w'))
 case atStart => exact ⟨(y149), (0), (0), zs, zs, H', ⟨Nat.le_refl _⟩, ⟨by (with_reducible repeat (first | apply Kd.R_alloc | apply Kd.R_drewN | apply Kd.R_drew)); exact HO151.out⟩, ⟨zb⟩⟩
 case round =>
  clear H'; obtain ⟨x3_1, x4_1, x10_1, rfl, rfl, HA, HK1, HO_3, HB⟩ := hrel
  cases gk with
  | zero => exact absurd HA.out (by simp [relex_ends.l0])
  | succ k1 =>
   have H := HA.out; clear HA; simp only [relex_ends.l0] at H; by_cases c4 : x10_1 < (l0.length : Int)
   ·rw [if_pos c4] at H; have c4b0 := decide_eq_true c4; clear c4; replace H := zi1 H; obtain ⟨c5b0, H⟩ := H; replace H := zi1 H; obtain ⟨c6b0, H⟩ := H; replace H := zi H; obtain ⟨c7, H⟩ := H; have LMc7 := Aside0.mk c7; clear c7
    obtain ⟨y154, hy154⟩ : ∃ y_ : List Int, y_ = (x3_1 ++ [wrap64 (x4_1 + (((rd_T59 l0 x10_1).f1).size : Int))]) := ⟨_, rfl⟩
    replace H : (relex_ends.l0 k1 y154 (wrap64 (x4_1 + (((rd_T59 l0 x10_1).f1).size : Int))) l0 (l0.length : Int) (wrap64 (x10_1 + 1))) = some r := by first | (rw [hy154]; with_reducible exact H) | (have H2_ := (Option.bind_some _ _).symm.trans H; rw [hy154]; with_reducible exact H2_) | (have H2_ := (Option.bind_some _ _).symm.trans H; with_reducible exact H2_) | with_reducible exact H | (rw [hy154]; exact H) | exact H
    have Ny154 := Aside0.mk hy154; clear hy154; have H' := Aside0.mk H; clear H; have p152 : 0 ≤ (x10_1 : Int) := zt; have q152 : x10_1 < (l0.length : Int) := zt; obtain ⟨ad152, e152, hx152_0, hx152_1⟩ := at_T59 HR0.out x10_1 p152 q152
    cases e152
    replace hx152_0 := zh HB hx152_0; replace hx152_1 := zh HB hx152_1; replace p152 := eq_true p152; replace q152 := eq_true q152
    go_wp2_with (first | ((with_reducible refine zD 6 rfl ?_); refine zx 6 #[.int .i64 0, .string (⟨#[]⟩ : ByteArray)] 59 ?_; intro gb153 hg w8 hbox hb; replace HO_3 := (zRb HO_3 hb); have BK153 := Aside0.mk (hbox); have GW153 := (zq hg : Aside0 (w.heap.size ≤ gb153)); have GE153 := GW153; replace HB := (zB hb); clear hb hbox hg; obtain ⟨hcz9_0, hcz9_1⟩ := zc2 BK153; obtain ⟨hfz9_0, hfz9_1⟩ := zz2 BK153) | ((with_reducible refine gate_builtin (b := .append) (xs := #[.tmp 19, .tmp 21]) rfl ?_); at_builtin; refine Kd.R_append (Kd.int .i64) (w0 := w) w.heap.size rfl (.tmp 19) (.tmp 21) 61 3 (.int .i64 0) 8 rfl Try.underlying61 info3 rfl (by decide) (by omega) u3 x3_1 (wrap64 (x4_1 + (((rd_T59 l0 x10_1).f1).size : Int))) [.int .i64 (wrap64 (x4_1 + (((rd_T59 l0 x10_1).f1).size : Int)))] (fun _ => True) (fun _ => False) rfl (by first | (go_simp; done) | (go_simp; rfl)) ?aP (fun _ hk => hk.elim) ?aF ?aO ?aB ?aS ?aL ?_; (case aP => exact rfl); (case aB => exact zb); (case aF => exact (fun _ _ => trivial)); (case aO => exact (by (with_reducible repeat (first | apply Kd.R_alloc | apply Kd.R_drewN | apply Kd.R_drew)); exact Kd.R_mono (Kd.R_far (p := ⟨gb153, 1, none⟩) (Kd.R_far (p := ⟨gb153, 0, none⟩) (Kd.R_types HO_3.out BK153.out (by decide)) (fun _ hk => hk.2) (.int .i64 ((rd_T59 l0 x10_1).f0))) (fun _ hk => hk.2) (.string ((rd_T59 l0 x10_1).f1))) (fun _ hk => trivial))); (case aS => exact (below_size zb)); (case aL => have := LMc7.out; omega); intro v155 w10 ho hb hg hat; rw [← Ny154.out] at ho; replace BK153 := Aside0.mk (blk_grown (g := gb153) (o := .cells #[.int .i64 ((rd_T59 l0 x10_1).f0), .string ((rd_T59 l0 x10_1).f1)] 59 (0, 0)) zw hg (Kd.R_ne HO_3.out BK153.out (by decide))); replace HB := Aside0.mk (hb); have HO156 := Aside0.mk (ho); clear HO_3; clear ho hb hg hat))
    go_roundg k1
    case measure => have := HK1.out; omega
    case rel => exact ⟨(y154), (wrap64 (x4_1 + (((rd_T59 l0 x10_1).f1).size : Int))), (wrap64 (x10_1 + 1)), zs, zs, H', zk, ⟨by (with_reducible repeat (first | apply Kd.R_alloc | apply Kd.R_drewN | apply Kd.R_drew)); exact HO156.out⟩, ⟨zb⟩⟩
   ·rw [if_neg c4] at H; have c4b0 := decide_eq_false c4; clear c4; obtain rfl := Option.some.inj H; go_wp2; go_ret; exact ⟨_, zr, by (with_reducible repeat (first | apply Kd.R_alloc | apply Kd.R_drewN | apply Kd.R_drew)); exact HO_3.out, zb⟩

end Go.Proofs.Ytahcpappailjgaa.P

namespace Go.Proofs.Ytahcpappailjgaa.P
open Go.RowKit Go.Proofs.YtahcpappailjgaaW.PrintWords Go.Proofs.YtahcpappailjgaaW.PrintLast Go.Proofs.YtahcpappailjgaaW.PrintMore
attribute [local go_sem] max2_int min2_int max_two min_two max_three min_three max_four min_four
set_option linter.unusedVariables false
set_option linter.unusedSimpArgs false

def strings_LastIndexByte.f (a0 : ByteArray) (a1 : Int) : Option (Int) := if a0.size < 4611686018427387904 then some (Lib.lastIndexByte a0 a1) else none
set_option maxRecDepth 100000 in
theorem strings_LastIndexByte.calls (a0 : ByteArray) (a1 : Int) (r : Int) (w : World) (h : strings_LastIndexByte.f a0 a1 = some r) :
  Calls Try.prog 33 #[.string a0, .int .u8 a1] w fun e w' => e = .returned (.int .i64 r) ∧ Drawn0 w w' := by
 unfold strings_LastIndexByte.f at h
 split at h
 ·next hs =>
  simp only [Option.some.injEq] at h; subst h; refine (Try.strings_LastIndexByte a0 a1 hs w).mono ?_; rintro e w' ⟨rfl, rfl⟩; exact ⟨rfl, Drawn0.refl _⟩
 ·cases h

end Go.Proofs.Ytahcpappailjgaa.P

