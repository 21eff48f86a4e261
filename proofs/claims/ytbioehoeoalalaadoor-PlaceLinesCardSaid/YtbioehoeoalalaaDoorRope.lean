/- Ropes in memory, and contracts of rope.New and the methods of a rope that was made. -/
import Derived.Test.YtbioehoeoalalaaDoorShelf
import Derived.Lib.FrozenHead2
import Derived.Lib.OthersKept
import Derived.BigQuiet
import Derived.Lib.Join
import Derived.Test.YtbioehoeoalalaaDoorUt
import Derived.Deep.LoopGhost
import Derived.OwnWalk
import Derived.WideLaws
import Derived.WalkSpells
import Derived.Outline
import Derived.Test.YtbioehoeoalalaaDoorWMore
set_option linter.unusedVariables false
namespace Go.Proofs.YtbioehoeoalalaaDoor.Rope
open Go.RowKit Go.Proofs.YtbioehoeoalalaaDoorW.PrintWords
/-- A rope that was made: its pieces, and the rope that it was made of. -/
inductive Rp where
  | base (ps : List ByteArray)
  | step (ps : List ByteArray) (old : Rp)
def Rp.ps : Rp → List ByteArray
  | .base ps => ps
  | .step ps _ => ps
def tot (ps : List ByteArray) : Nat := (ps.map (·.size)).sum
def txt (ps : List ByteArray) : List UInt8 := (ps.map (·.data.toList)).flatten
/-- Strings, as they lie. -/
def RS (W : World) (A : Option Addr) (ps : List ByteArray) : Prop :=
  ps.length ≤ 140737488355328 ∧ (0 < ps.length → ∃ bk o, A = some ⟨bk, o, none⟩ ∧ ∀ (j : Nat) x, ps[j]? = some x → W.cell? ⟨bk, o + j, none⟩ = some (.string x))
def Lies (W : World) (g : Nat) (ps : List ByteArray) (u : Value) : Prop :=
  ∃ A c, W.heap[g]? = some (.cells #[.slice A ps.length c, .int .i64 (tot ps : Nat), u, .bool true] 71 (0, 0)) ∧ ps.length ≤ c ∧ RS W A ps
def IsRp (W : World) : Value → Rp → Prop
  | v, .base ps => ∃ g, v = .pointer (some ⟨g, 0, none⟩) ∧ Lies W g ps (.pointer none)
  | v, .step ps o => ∃ g u, v = .pointer (some ⟨g, 0, none⟩) ∧ Lies W g ps u ∧ IsRp W u o
theorem RS.below {W W' : World} {A : Option Addr} {ps : List ByteArray} (h : RS W A ps) (hb : Below W.heap.size W W') : RS W' A ps := by
  refine ⟨h.1, fun hp => ?_⟩
  obtain ⟨bk, o, e, hc⟩ := h.2 hp
  refine ⟨bk, o, e, fun j x hx => ?_⟩
  have h1 := hc j x hx
  exact (hb.cell (World.block_lt_of_cell? W _ h1)).trans h1
theorem blk_lt {W : World} {g : Nat} {o : Obj} (h : W.heap[g]? = some o) : g < W.heap.size := by
  rcases Nat.lt_or_ge g W.heap.size with h' | h'
  · exact h'
  · rw [Array.getElem?_eq_none h'] at h; cases h
theorem Lies.below {W W' : World} {g : Nat} {ps : List ByteArray} {u : Value} (h : Lies W g ps u) (hb : Below W.heap.size W W') : Lies W' g ps u := by
  obtain ⟨A, c, h1, h2, h3⟩ := h
  exact ⟨A, c, (hb.block _ (blk_lt h1)).trans h1, h2, h3.below hb⟩
theorem IsRp.below {W W' : World} (hb : Below W.heap.size W W') : ∀ {v : Value} {r : Rp}, IsRp W v r → IsRp W' v r
  | v, .base ps, h => by
    obtain ⟨g, e, h⟩ := h
    exact ⟨g, e, h.below hb⟩
  | v, .step ps o, h => by
    obtain ⟨g, u, e, h, h'⟩ := h
    exact ⟨g, u, e, h.below hb, IsRp.below hb h'⟩
theorem IsRp.open {W : World} {v : Value} {r : Rp} (h : IsRp W v r) : ∃ g u, v = .pointer (some ⟨g, 0, none⟩) ∧ Lies W g r.ps u := by
  cases r with
  | base ps => obtain ⟨g, e, h⟩ := h; exact ⟨g, _, e, h⟩
  | step ps o => obtain ⟨g, u, e, h, _⟩ := h; exact ⟨g, u, e, h⟩
theorem Lies.cells {W : World} {g : Nat} {ps : List ByteArray} {u : Value} (h : Lies W g ps u) :
    ∃ A c, W.cell? ⟨g, 0, none⟩ = some (.slice A ps.length c) ∧ W.cell? ⟨g, 1, none⟩ = some (.int .i64 (tot ps : Nat)) ∧ W.cell? ⟨g, 2, none⟩ = some u ∧ W.cell? ⟨g, 3, none⟩ = some (.bool true) ∧ ps.length ≤ c ∧ RS W A ps := by
  obtain ⟨A, c, h1, h2, h3⟩ := h
  exact ⟨A, c, by rw [Lib.cell_of_heap h1]; rfl, by rw [Lib.cell_of_heap h1]; rfl, by rw [Lib.cell_of_heap h1]; rfl, by rw [Lib.cell_of_heap h1]; rfl, h2, h3⟩

set_option maxHeartbeats 1000000 in
set_option maxRecDepth 100000 in
theorem none_made (g : Nat) (w : World) (h : w.cell? ⟨g, 3, none⟩ = some (.bool true)) :
    Calls Tryd.prog 37 #[.pointer (some ⟨g, 0, none⟩)] w fun e w' => e = .returned (.bool false) ∧ w' = w := by
  obtain ⟨j, hj, _⟩ := Option.map_eq_some_iff.1 (show (Tryd.prog.info? 71).map (·.size) = some 4 by kernel_rfl)
  go_enter Tryd.func37, Tryd.ntmps37
  go_wp2
  go_ret
  exact ⟨rfl, rfl⟩

set_option maxHeartbeats 1000000 in
set_option maxRecDepth 100000 in
theorem none_nil (w : World) :
    Calls Tryd.prog 37 #[.pointer none] w fun e w' => e = .returned (.bool true) ∧ w' = w := by
  go_enter Tryd.func37, Tryd.ntmps37
  go_wp2
  go_ret
  exact ⟨rfl, rfl⟩

set_option maxHeartbeats 1000000 in
set_option maxRecDepth 100000 in
theorem none_zero (g : Nat) (w : World) (h : w.cell? ⟨g, 3, none⟩ = some (.bool false)) :
    Calls Tryd.prog 37 #[.pointer (some ⟨g, 0, none⟩)] w fun e w' => e = .returned (.bool true) ∧ w' = w := by
  obtain ⟨j, hj, _⟩ := Option.map_eq_some_iff.1 (show (Tryd.prog.info? 71).map (·.size) = some 4 by kernel_rfl)
  go_enter Tryd.func37, Tryd.ntmps37
  go_wp2
  go_ret
  exact ⟨rfl, rfl⟩

set_option maxHeartbeats 1000000 in
set_option maxRecDepth 100000 in
theorem New_long (s : ByteArray) (w : World) (h : 20000 < s.size) :
    Calls Tryd.prog 24 #[.string s] w fun e w' => e = .returned (.tuple #[.pointer none, .int .i64 3]) ∧ w' = w := by
  go_enter Tryd.func24, Tryd.ntmps24
  go_wp2
  go_ret2
  exact ⟨rfl, rfl⟩

theorem alloc_at (w : World) (o : Obj) : (w.alloc o).heap[w.heap.size]? = some o := by
  show (w.heap.push o)[w.heap.size]? = some o
  simp
theorem alloc_two (w : World) (o1 o2 : Obj) : ((w.alloc o1).alloc o2).heap[w.heap.size]? = (w.alloc o1).heap[w.heap.size]? := by
  show ((w.heap.push o1).push o2)[w.heap.size]? = (w.heap.push o1)[w.heap.size]?
  rw [Array.getElem?_push_lt (by simp), Array.getElem?_eq_getElem (by simp)]
theorem alloc_at' (w : World) (o : Obj) (k : Nat) (h : k = w.heap.size) : (w.alloc o).heap[k]? = some o := by
  subst h
  exact alloc_at w o
/-- The pieces of a rope of New. -/
def one (s : ByteArray) : List ByteArray := if s.size = 0 then [] else [s]
set_option maxHeartbeats 1000000 in
set_option maxRecDepth 100000 in
theorem New_ok (s : ByteArray) (w : World) (h : s.size ≤ 20000) :
    Calls Tryd.prog 24 #[.string s] w fun e w' => ∃ v, e = .returned (.tuple #[v, .int .i64 0]) ∧ IsRp w' v (.base (one s)) ∧ Below w.heap.size w w' := by
  have hB : Below w.heap.size w (w.alloc (.cells #[.slice none 0 0, .int .i64 (s.size : Int), .pointer none, .bool true] 71)) := (Below.refl _ _).alloc (Nat.le_refl _) _
  by_cases hs : s.size = 0
  · have h0 := Ut.empty_of hs
    have HS := Aside0.mk hs
    have h2 : ¬ (20000 < (s.size : Int)) := by omega
    clear hs
    go_enter Tryd.func24, Tryd.ntmps24
    go_wp2
    go_ret2
    refine ⟨_, rfl, ⟨w.heap.size, rfl, none, 0, ?_, ?_, ?_⟩, hB⟩
    · rw [alloc_at]; simp [one, HS.out, tot]
    · simp [one, HS.out]
    · exact ⟨by simp [one, HS.out], by simp [one, HS.out]⟩
  · have h0 := Ut.nonempty_of hs
    have HS := Aside0.mk hs
    clear hs
    go_enter Tryd.func24, Tryd.ntmps24
    go_wp2
    go_ret2
    have e1 : one s = [s] := by simp [one, HS.out]
    rw [e1]
    refine ⟨_, rfl, ⟨w.heap.size, rfl, some ⟨w.heap.size + 1, 0, none⟩, 1, ?_, ?_, ?_⟩, ?_⟩
    · rw [alloc_two, alloc_at]; simp [tot]
    · simp
    · refine ⟨by simp, fun _ => ⟨_, 0, rfl, fun j x hx => ?_⟩⟩
      match j, hx with
      | 0, hx =>
        simp only [List.getElem?_cons_zero, Option.some.injEq] at hx
        subst hx
        rw [Lib.cell_of_heap (alloc_at' _ _ _ (by simp [World.size_alloc]))]
        rfl
    · exact ((Below.refl _ _).alloc (Nat.le_refl _) _).alloc (by simp) _

theorem join_nil (l : List (List UInt8)) : Lib.join l [] = l.flatten := by
  unfold Lib.join List.intercalate
  induction l with
  | nil => rfl
  | cons x r ih =>
    cases r with
    | nil => simp
    | cons y r =>
      simp only [List.intersperse, List.flatten_cons, List.nil_append] at ih ⊢
      rw [ih]
theorem txt_length (ps : List ByteArray) : (txt ps).length = tot ps := by
  induction ps with
  | nil => rfl
  | cons p r ih =>
    simp only [txt, tot, List.map_cons, List.flatten_cons, List.length_append, List.sum_cons] at ih ⊢
    rw [ih, Ut.size_data]
/-- The lines of pieces: one more than line feeds. -/
def feeds (ps : List ByteArray) : Nat := (ps.map (fun p => Lib.countByte p.data.toList 10)).sum
theorem feeds_take (ps : List ByteArray) (k : Nat) (h : k < ps.length) : feeds (ps.take (k + 1)) = feeds (ps.take k) + Lib.countByte (ps[k]).data.toList 10 := by
  unfold feeds
  rw [List.take_succ_eq_append_getElem h, List.map_append, List.sum_append_nat]
  simp
theorem feeds_le (ps : List ByteArray) (k : Nat) : feeds (ps.take k) ≤ tot ps := by
  induction ps generalizing k with
  | nil => simp [feeds]
  | cons p r ih =>
    cases k with
    | zero => simp [feeds]
    | succ k =>
      have h1 := ih k
      have h2 : Lib.countByte p.data.toList 10 ≤ p.size := by
        rw [← Ut.size_data]
        exact List.count_le_length
      simp only [feeds, tot, List.take_succ_cons, List.map_cons, List.sum_cons] at h1 ⊢
      omega
set_option maxHeartbeats 1000000 in
set_option maxRecDepth 100000 in
theorem Lines_ok (v : Value) (r : Rp) (w : World) (h : IsRp w v r) (hs : tot r.ps ≤ 140737488355328) :
    Calls Tryd.prog 25 #[v] w fun e w' => e = .returned (.int .i64 ((1 + feeds r.ps : Nat) : Int)) ∧ w' = w := by
  obtain ⟨g, u, rfl, hl⟩ := h.open
  obtain ⟨A, c, h0, h1, h2, h3, hc, hr⟩ := hl.cells
  have hm := hr.1
  go_enter Tryd.func25, Tryd.ntmps25
  go_wp2_with (go_at_call 37; refine (none_made g _ h3).mono ?_; rintro e w1 ⟨rfl, rfl⟩)
  have HR := Aside0.mk hr
  clear hr h hl h0 h1 h2 h3
  go_loop [3, 13] (fun n i => ∃ k : Nat, k ≤ r.ps.length ∧ i = .int .i64 k ∧ n = .int .i64 ((1 + feeds (r.ps.take k) : Nat) : Int)) (fun _ i => r.ps.length - (intOf i).toNat)
  case atStart => exact ⟨0, Nat.zero_le _, rfl, rfl⟩
  case round =>
    obtain ⟨k, hk, rfl, rfl⟩ := hrel
    by_cases hlt : k < r.ps.length
    · obtain ⟨bk, o, rfl, hx⟩ := HR.out.2 (by omega)
      have hx1 := hx k _ (List.getElem?_eq_getElem hlt)
      have hf := feeds_take r.ps k hlt
      have hle := Nat.le_trans (feeds_le r.ps (k + 1)) hs
      have HF := Aside0.mk hf
      rw [hf] at hle
      clear hx hf
      generalize r.ps[k] = p at *
      go_wp2_with (go_at_call 32; refine (Tryd.strings_Count_one p 10 _).mono ?_; rintro e w2 ⟨rfl, rfl⟩)
      go_round
      case rel => exact ⟨k + 1, by omega, by go_num, by rw [HF.out]; go_num⟩
      case measure => simp [intOf]; omega
    · go_wp2
      go_ret
      have e : r.ps.take k = r.ps := List.take_of_length_le (by omega)
      rw [e]
      exact ⟨rfl, rfl⟩

end Go.Proofs.YtbioehoeoalalaaDoor.Rope
