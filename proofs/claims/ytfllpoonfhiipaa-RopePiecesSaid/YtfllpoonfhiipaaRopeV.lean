/- The methods of a nil rope, and of a zero one. -/
import Derived.Test.YtfllpoonfhiipaaRope
set_option linter.unusedVariables false
namespace Go.Proofs.Ytfllpoonfhiipaa.Rope
open Go.RowKit Go.Proofs.Ytfllpoonfhiipaa.Bld Go.Proofs.YtfllpoonfhiipaaW.PrintWords
/-- A pointer that is nil, or to a rope that was not made. -/
def Void (w : World) (v : Value) : Prop := v = .pointer none ∨ ∃ g, v = .pointer (some ⟨g, 0, none⟩) ∧ w.cell? ⟨g, 3, none⟩ = some (.bool false)
theorem Void.below {w w' : World} {v : Value} (h : Void w v) (hb : Below w.heap.size w w') : Void w' v := by
  rcases h with h | ⟨g, h, hc⟩
  · exact .inl h
  · exact .inr ⟨g, h, (hb.cell (World.block_lt_of_cell? w _ hc)).trans hc⟩
theorem none_void (v : Value) (w : World) (h : Void w v) : Calls Try.prog 49 #[v] w fun e w' => e = .returned (.bool true) ∧ w' = w := by
  rcases h with rfl | ⟨g, rfl, hc⟩
  · exact none_nil w
  · exact none_zero g w hc
theorem Void.form {w : World} {v : Value} (h : Void w v) : ∃ a, v = .pointer a := by
  rcases h with rfl | ⟨g, rfl, _⟩
  · exact ⟨_, rfl⟩
  · exact ⟨_, rfl⟩
set_option maxHeartbeats 1000000 in
set_option maxRecDepth 100000 in
theorem Text_void (v : Value) (w : World) (h : Void w v) : Calls Try.prog 33 #[v] w fun e w' => e = .returned (.string ⟨#[]⟩) ∧ w' = w := by
  obtain ⟨a, rfl⟩ := h.form
  have H := Aside0.mk h
  clear h
  go_enter Try.func33, Try.ntmps33
  go_wp2_with (go_at_call 49; refine (none_void _ _ H.out).mono ?_; rintro e w1 ⟨rfl, rfl⟩)
  go_ret
  exact ⟨rfl, rfl⟩
set_option maxHeartbeats 1000000 in
set_option maxRecDepth 100000 in
theorem Len_void (v : Value) (w : World) (h : Void w v) : Calls Try.prog 36 #[v] w fun e w' => e = .returned (.int .i64 0) ∧ w' = w := by
  obtain ⟨a, rfl⟩ := h.form
  have H := Aside0.mk h
  clear h
  go_enter Try.func36, Try.ntmps36
  go_wp2_with (go_at_call 49; refine (none_void _ _ H.out).mono ?_; rintro e w1 ⟨rfl, rfl⟩)
  go_ret
  exact ⟨rfl, rfl⟩
set_option maxHeartbeats 1000000 in
set_option maxRecDepth 100000 in
theorem Lines_void (v : Value) (w : World) (h : Void w v) : Calls Try.prog 40 #[v] w fun e w' => e = .returned (.int .i64 0) ∧ w' = w := by
  obtain ⟨a, rfl⟩ := h.form
  have H := Aside0.mk h
  clear h
  go_enter Try.func40, Try.ntmps40
  go_wp2_with (go_at_call 49; refine (none_void _ _ H.out).mono ?_; rintro e w1 ⟨rfl, rfl⟩)
  go_ret
  exact ⟨rfl, rfl⟩
set_option maxHeartbeats 1000000 in
set_option maxRecDepth 100000 in
theorem Pieces_void (v : Value) (w : World) (h : Void w v) : Calls Try.prog 35 #[v] w fun e w' => e = .returned (.int .i64 0) ∧ w' = w := by
  obtain ⟨a, rfl⟩ := h.form
  have H := Aside0.mk h
  clear h
  go_enter Try.func35, Try.ntmps35
  go_wp2_with (go_at_call 49; refine (none_void _ _ H.out).mono ?_; rintro e w1 ⟨rfl, rfl⟩)
  go_ret
  exact ⟨rfl, rfl⟩
set_option maxHeartbeats 1000000 in
set_option maxRecDepth 100000 in
theorem Undo_void (v : Value) (w : World) (h : Void w v) : Calls Try.prog 34 #[v] w fun e w' => e = .returned (.tuple #[.pointer none, .int .i64 1]) ∧ w' = w := by
  obtain ⟨a, rfl⟩ := h.form
  have H := Aside0.mk h
  clear h
  go_enter Try.func34, Try.ntmps34
  go_wp2_with (go_at_call 49; refine (none_void _ _ H.out).mono ?_; rintro e w1 ⟨rfl, rfl⟩)
  go_ret2
  exact ⟨rfl, rfl⟩
set_option maxHeartbeats 1000000 in
set_option maxRecDepth 100000 in
theorem Edit_void (v : Value) (A : Option Addr) (n c : Nat) (w : World) (h : Void w v) : Calls Try.prog 32 #[v, .slice A n c] w fun e w' => e = .returned (.tuple #[.pointer none, .int .i64 1]) ∧ w' = w := by
  obtain ⟨a, rfl⟩ := h.form
  have H := Aside0.mk h
  clear h
  go_enter Try.func32, Try.ntmps32
  go_wp2_with (go_at_call 49; refine (none_void _ _ H.out).mono ?_; rintro e w1 ⟨rfl, rfl⟩)
  go_ret2
  exact ⟨rfl, rfl⟩
set_option maxHeartbeats 1000000 in
set_option maxRecDepth 100000 in
theorem Slice_void (v : Value) (x y : Int) (w : World) (h : Void w v) : Calls Try.prog 38 #[v, .agg #[.int .i64 x, .int .i64 y]] w fun e w' => e = .returned (.tuple #[.string ⟨#[]⟩, .int .i64 1]) ∧ Below w.heap.size w w' := by
  obtain ⟨a, rfl⟩ := h.form
  have hb : Below w.heap.size w (w.alloc (.cells #[.int .i64 x, .int .i64 y] 49)) := (Below.refl _ _).alloc (Nat.le_refl _) _
  have H := Aside0.mk (h.below hb)
  clear h
  go_enter Try.func38, Try.ntmps38
  go_wp2_with (go_at_call 49; refine (none_void _ _ H.out).mono ?_; rintro e w1 ⟨rfl, rfl⟩)
  go_ret2
  exact ⟨rfl, hb⟩
set_option maxHeartbeats 1000000 in
set_option maxRecDepth 100000 in
theorem Line_void (v : Value) (n : Int) (w : World) (h : Void w v) : Calls Try.prog 39 #[v, .int .i64 n] w fun e w' => e = .returned (.tuple #[.agg #[.int .i64 0, .int .i64 0], .int .i64 1]) ∧ Below w.heap.size w w' := by
  obtain ⟨a, rfl⟩ := h.form
  have hb : Below w.heap.size w (w.alloc (.cells #[.int .i64 0, .int .i64 0] 49)) := (Below.refl _ _).alloc (Nat.le_refl _) _
  have H := Aside0.mk (h.below hb)
  clear h
  go_enter Try.func39, Try.ntmps39
  go_wp2_with (go_at_call 49; refine (none_void _ _ H.out).mono ?_; rintro e w1 ⟨rfl, rfl⟩)
  exact bodyPost_ret (v := .tuple #[.agg #[.int .i64 0, .int .i64 0], .int .i64 1]) (by simp [results, Try.results39, go_sem]) rfl ⟨rfl, hb⟩
end Go.Proofs.Ytfllpoonfhiipaa.Rope
