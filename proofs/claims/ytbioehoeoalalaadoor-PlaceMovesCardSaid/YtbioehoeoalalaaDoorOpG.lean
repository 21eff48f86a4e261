/- Arguments, opened: what reads as data of a type is a value of the printed kind, its numbers in their ranges. -/
import Derived.Test.YtbioehoeoalalaaDoorWMore
import Derived.Test.YtbioehoeoalalaaDoorUt
import Derived.ProofKit
import Derived.OpenShut
import Derived.ShutString
import Derived.ChangeOld
import Derived.Below
import Derived.SizedLaws
import Derived.DataReads
import Derived.Deep.Slices
set_option linter.unusedVariables false
namespace Go.Proofs.YtbioehoeoalalaaDoor.OpG
open Go.RowKit Go.Proofs.YtbioehoeoalalaaDoorW.PrintWords
variable {H : Type} {enc : TypeId × Value → H} {P : Program} {W : World}
def OpF (enc : TypeId × Value → H) (P : Program) (W : World) (n : Nat) (T : TypeId) {α : Type} (d : Kd α) (ok : α → Prop) : Prop :=
  ∀ cs x, DataW.trod enc P W 0 (fun _ => true) true n T cs = some x → ∃ a, d.K W a cs ∧ ok a
def okI (n : Int) : Prop := -9223372036854775808 ≤ n ∧ n ≤ 9223372036854775807
def okS (s : ByteArray) : Prop := s.size ≤ 9223372036854775807
theorem OpF.int {n : Nat} {T : TypeId} (ht : P.underlying T = some (.int .i64)) : OpF enc P W n T (Kd.int .i64) okI := by
  intro cs x h
  obtain ⟨a, rfl, _, hw⟩ := DataW.trod_int ht h
  exact ⟨a, rfl, bounds_i64 hw⟩
theorem OpF.u16 {n : Nat} {T : TypeId} (ht : P.underlying T = some (.int .u16)) : OpF enc P W n T (Kd.int .u16) (fun a => 0 ≤ a ∧ a ≤ 65535) := by
  intro cs x h
  obtain ⟨a, rfl, _, hw⟩ := DataW.trod_int ht h
  exact ⟨a, rfl, bounds_u16 hw⟩
theorem OpF.bool {n : Nat} {T : TypeId} (ht : P.underlying T = some .bool) : OpF enc P W n T Kd.bool (fun _ => True) := by
  intro cs x h
  obtain ⟨a, rfl, _⟩ := DataW.trod_bool ht h
  exact ⟨a, rfl, trivial⟩
theorem OpF.string {n : Nat} {T : TypeId} (ht : P.underlying T = some .string) : OpF enc P W n T Kd.string okS := by
  intro cs x h
  obtain ⟨a, rfl, _, hw⟩ := DataW.trod_string ht h
  exact ⟨a, rfl, hw⟩
theorem choose_list {α : Type} {Q : Nat → α → Prop} : ∀ (n : Nat), (∀ i, i < n → ∃ a, Q i a) → ∃ l : List α, l.length = n ∧ ∀ i a, l[i]? = some a → Q i a
  | 0, _ => ⟨[], rfl, fun i a h => by simp at h⟩
  | n + 1, h => by
    obtain ⟨l, hl, hq⟩ := choose_list n (fun i hi => h i (by omega))
    obtain ⟨a, ha⟩ := h n (by omega)
    refine ⟨l ++ [a], by simp [hl], fun i b hb => ?_⟩
    rcases Nat.lt_or_ge i n with hi | hi
    · rw [List.getElem?_append_left (by omega)] at hb
      exact hq i b hb
    · have hi' : i = n := by
        have := (List.getElem?_eq_some_iff.1 hb).1
        simp [hl] at this
        omega
      subst hi'
      rw [List.getElem?_append_right (by omega)] at hb
      simp [hl] at hb
      subst hb
      exact ha
theorem OpF.slice {n : Nat} {T e : TypeId} {α : Type} {d : Kd α} {ok : α → Prop} (ht : P.underlying T = some (.slice e)) (hs : P.cellsOf e = d.sz) (h : ∀ m, m < n → OpF enc P W m e d ok) :
    OpF enc P W n T (Kd.slice e d) (fun l => l.length ≤ 9223372036854775807 ∧ ∀ a ∈ l, ok a) := by
  intro cs x hx
  rcases DataW.trod_slice ht hx with ⟨rfl, _⟩ | ⟨a, len, cap, elems, rest, m, rfl, rfl, _, _, hl, hm, hlen, hel, _⟩
  · exact ⟨[], ⟨none, 0, rfl, Nat.le_refl _, rfl, by simp, fun h0 => absurd h0 (Nat.lt_irrefl 0)⟩, by simp, fun a ha => by cases ha⟩
  · have hq : ∀ i, i < len → ∃ b : α, ∃ c, c.length = d.sz ∧ d.K W b c ∧ (∀ j u, c[j]? = some u → W.cell? (a.add (i * d.sz + j)) = some u) ∧ ok b := by
      intro i hi
      have h1 := hel i hi
      rw [List.getElem?_eq_getElem (by omega)] at h1
      obtain ⟨c, hc, hd⟩ := Option.bind_eq_some_iff.1 h1
      obtain ⟨_, hcl, hat⟩ := World.cells?_some hc
      obtain ⟨b, hb, hok⟩ := h m (Nat.lt_succ_self m) _ _ hd
      refine ⟨b, c, by rw [hcl, hs], hb, fun j u hu => ?_, hok⟩
      have hj : j < P.cellsOf e := by
        have := (List.getElem?_eq_some_iff.1 hu).1
        omega
      have := hat j hj
      rw [hu, hs] at this
      rw [← this, Go.Deep.add_add]
    obtain ⟨l, hll, hlq⟩ := choose_list len hq
    unfold maxLen at hm
    refine ⟨l, ⟨some a, cap, by rw [hll], by omega, rfl, by omega, fun _ => ⟨a, rfl, fun j p hj => ?_⟩⟩, by omega, fun b hb => ?_⟩
    · obtain ⟨c, h1, h2, h3, _⟩ := hlq j p hj
      exact ⟨c, h1, h2, h3⟩
    · obtain ⟨i, hi⟩ := List.mem_iff_getElem?.1 hb
      obtain ⟨_, _, _, _, h4⟩ := hlq i b hi
      exact h4
theorem slice_val {α : Type} {d : Kd α} {e len cap : Nat} {a : Option Addr} {l : List α} (h : (Kd.slice e d).K W l (Value.slice a len cap).cells.toList) : len = l.length ∧ l.length ≤ cap ∧ d.C W a l.length l := by
  obtain ⟨A', c', e1, h1, h2⟩ := h
  simp [Value.cells] at e1
  obtain ⟨rfl, rfl, rfl⟩ := e1
  exact ⟨rfl, h1, h2⟩
theorem agg_val {cs : Array Value} {l : List Value} (h : (Value.agg cs).cells.toList = l) : cs = l.toArray := by
  subst h
  simp [Value.cells]
end Go.Proofs.YtbioehoeoalalaaDoor.OpG
