/- Every method of a nil rope, and of a zero one, answers ErrNil or zero values: the law returns true. -/
import Derived.Test.YtfllpoonfhiipaaRopeSp
import Derived.Test.YtfllpoonfhiipaaRopeV
import Derived.Outline
set_option linter.unusedVariables false
namespace Go.Proofs.Ytfllpoonfhiipaa.Pure
open Go.RowKit Go.Proofs.Ytfllpoonfhiipaa Go.Proofs.Ytfllpoonfhiipaa.P Go.Proofs.YtfllpoonfhiipaaW.PrintWords Go.Proofs.YtfllpoonfhiipaaW.PrintLast Go.Proofs.YtfllpoonfhiipaaW.PrintMore
set_option maxHeartbeats 4000000 in
set_option maxRecDepth 100000 in
theorem RopeVoid (W : World) (A0 : Option Addr) (c0 : Nat) (a0 : List (S47)) (x y n : Int) (hr0 : Kd.C k47 W A0 a0.length a0) (hc0 : a0.length ≤ c0)
    (ok0 : (fun l => l.length ≤ 9223372036854775807 ∧ ∀ a ∈ l, ok47 a) a0) (ok1 : ok49 ⟨x, y⟩) (ok2 : OpG.okI n) :
    Calls Try.prog 11 #[.slice A0 a0.length c0, .agg #[.int .i64 x, .int .i64 y], .int .i64 n] W fun e w' => e = .returned (.bool true) ∧ Below W.heap.size W w' := by
  obtain ⟨K, hK⟩ := Cut_ev a0 400 ok0.1
  have hcut := hK K (Nat.le_refl _)
  have hb0 : Below W.heap.size W (W.alloc (.cells #[.int .i64 x, .int .i64 y] 49)) := (Below.refl _ _).alloc (Nat.le_refl _) _
  have hr1 := Kd.C_below hr0 hb0
  clear hK ok0 ok1 ok2 hr0
  go_enter Try.func11, Try.ntmps11
  go_wp2_with fail
  refine (marginaliaref01_Cut.calls K _ _ a0 400 (cut 400 a0) _ hr1 hc0 hcut).mono ?_
  rintro e w1 ⟨v, rfl, hv, hb1⟩
  obtain ⟨A, c, rfl, hc, hC⟩ := Kd.R_reads hv
  have HB1 := Aside0.mk (Kx.below_step hb0 hb1)
  have HX1 : w1.heap[W.heap.size]? = some (.cells #[.int .i64 x, .int .i64 y] 49 (0, 0)) := (hb1.block _ (by simp)).trans (Bld.alloc_at _ _)
  have HX := Aside0.mk HX1
  clear hv hb0 hb1 hr1 hcut hC HX1 hc0
  obtain ⟨wo, rfl⟩ : ∃ wo : World, wo = w1 := ⟨_, rfl⟩
  go_wp2_with fail
  go_loopg [8] 2 (fun kq v8 w' => ∃ (i : Nat), v8 = .int .i64 i ∧ Aside0 (i + kq = 2) ∧ Aside0 (w'.heap[W.heap.size]? = some (.cells #[.int .i64 x, .int .i64 y] 49 (0, 0))) ∧ Aside0 (Below W.heap.size W w'))
  case atStart => exact ⟨0, rfl, ⟨rfl⟩, HX, HB1⟩
  case round =>
    clear HX HB1
    obtain ⟨i, rfl, HK, HX, HB⟩ := hrel
    have hz : wr.cell? ⟨W.heap.size, 0, none⟩ = some (.int .i64 x) := by rw [Lib.cell_of_heap HX.out]; rfl
    have hz1 : wr.cell? ⟨W.heap.size, 1, none⟩ = some (.int .i64 y) := by rw [Lib.cell_of_heap HX.out]; rfl
    have hi : i ≤ 2 := by have := HK.out; omega
    match i, hi with
    | 0, _ =>
      obtain rfl : gk = 2 := by have := HK.out; omega
      have hV : Rope.Void wr (.pointer none) := .inl rfl
      have HBc := HB
      have HXc := HX
      go_wp2_with fail
      refine (Rope.Slice_void _ x y _ hV).mono ?_
      rintro e w2 ⟨rfl, hb2⟩
      have hV2 := hV.below hb2
      go_wp2_with fail
      refine (Rope.Edit_void _ _ _ _ _ hV2).mono ?_
      rintro e w3 ⟨rfl, rfl⟩
      go_wp2_with fail
      refine (Rope.Undo_void _ _ hV2).mono ?_
      rintro e w3 ⟨rfl, rfl⟩
      go_wp2_with fail
      refine (Rope.Line_void _ _ _ hV2).mono ?_
      rintro e w4 ⟨rfl, hb4⟩
      have hV4 := hV2.below hb4
      have hb5 : Below w4.heap.size w4 (w4.alloc (.cells #[.int .i64 0, .int .i64 0] 49)) := (Below.refl _ _).alloc (Nat.le_refl _) _
      have hV5 := hV4.below hb5
      have HBn := Aside0.mk (Kx.below_step (Kx.below_step (Kx.below_step HBc.out hb2) hb4) hb5)
      have HXn : Aside0 ((w4.alloc (.cells #[.int .i64 0, .int .i64 0] 49)).heap[W.heap.size]? = some (.cells #[.int .i64 x, .int .i64 y] 49 (0, 0))) := ⟨(hb5.block _ (Rope.blk_lt ((hb4.block _ (Rope.blk_lt ((hb2.block _ (Rope.blk_lt HXc.out)).trans HXc.out))).trans ((hb2.block _ (Rope.blk_lt HXc.out)).trans HXc.out)))).trans ((hb4.block _ (Rope.blk_lt ((hb2.block _ (Rope.blk_lt HXc.out)).trans HXc.out))).trans ((hb2.block _ (Rope.blk_lt HXc.out)).trans HXc.out))⟩
      clear hb2 hb4 hb5 hV2 hV4
      go_wp2_with fail
      refine (Rope.Text_void _ _ hV5).mono ?_
      rintro e w6 ⟨rfl, rfl⟩
      go_wp2_with fail
      refine (Rope.Len_void _ _ hV5).mono ?_
      rintro e w6 ⟨rfl, rfl⟩
      go_wp2_with fail
      refine (Rope.Lines_void _ _ hV5).mono ?_
      rintro e w6 ⟨rfl, rfl⟩
      go_wp2_with fail
      refine (Rope.Pieces_void _ _ hV5).mono ?_
      rintro e w6 ⟨rfl, rfl⟩
      go_wp2_with fail
      go_roundg 1
      case measure => have := HK.out; omega
      case rel => exact ⟨1, rfl, ⟨by have := HK.out; omega⟩, HXn, HBn⟩
    | 1, _ =>
      obtain rfl : gk = 1 := by have := HK.out; omega
      have hbz : Below wr.heap.size wr (wr.alloc (.cells #[.slice none 0 0, .int .i64 0, .pointer none, .bool false] 66)) := (Below.refl _ _).alloc (Nat.le_refl _) _
      have hV : Rope.Void (wr.alloc (.cells #[.slice none 0 0, .int .i64 0, .pointer none, .bool false] 66)) (.pointer (some ⟨wr.heap.size, 0, none⟩)) := .inr ⟨_, rfl, by rw [Lib.cell_of_heap (Bld.alloc_at _ _)]; rfl⟩
      have HBc := Aside0.mk (Kx.below_step HB.out hbz)
      have HXc : Aside0 ((wr.alloc (.cells #[.slice none 0 0, .int .i64 0, .pointer none, .bool false] 66)).heap[W.heap.size]? = some (.cells #[.int .i64 x, .int .i64 y] 49 (0, 0))) := ⟨(hbz.block _ (Rope.blk_lt HX.out)).trans HX.out⟩
      have hzc : ∀ o : Obj, (wr.alloc o).cell? ⟨W.heap.size, 0, none⟩ = some (.int .i64 x) := fun o => ((((Below.refl wr.heap.size wr).alloc (Nat.le_refl _) o)).cell (p := ⟨W.heap.size, 0, none⟩) (Rope.blk_lt HX.out)).trans hz
      have hzc1 : ∀ o : Obj, (wr.alloc o).cell? ⟨W.heap.size, 1, none⟩ = some (.int .i64 y) := fun o => ((((Below.refl wr.heap.size wr).alloc (Nat.le_refl _) o)).cell (p := ⟨W.heap.size, 1, none⟩) (Rope.blk_lt HX.out)).trans hz1
      clear hbz
      go_wp2_with fail
      refine (Rope.Slice_void _ x y _ hV).mono ?_
      rintro e w2 ⟨rfl, hb2⟩
      have hV2 := hV.below hb2
      go_wp2_with fail
      refine (Rope.Edit_void _ _ _ _ _ hV2).mono ?_
      rintro e w3 ⟨rfl, rfl⟩
      go_wp2_with fail
      refine (Rope.Undo_void _ _ hV2).mono ?_
      rintro e w3 ⟨rfl, rfl⟩
      go_wp2_with fail
      refine (Rope.Line_void _ _ _ hV2).mono ?_
      rintro e w4 ⟨rfl, hb4⟩
      have hV4 := hV2.below hb4
      have hb5 : Below w4.heap.size w4 (w4.alloc (.cells #[.int .i64 0, .int .i64 0] 49)) := (Below.refl _ _).alloc (Nat.le_refl _) _
      have hV5 := hV4.below hb5
      have HBn := Aside0.mk (Kx.below_step (Kx.below_step (Kx.below_step HBc.out hb2) hb4) hb5)
      have HXn : Aside0 ((w4.alloc (.cells #[.int .i64 0, .int .i64 0] 49)).heap[W.heap.size]? = some (.cells #[.int .i64 x, .int .i64 y] 49 (0, 0))) := ⟨(hb5.block _ (Rope.blk_lt ((hb4.block _ (Rope.blk_lt ((hb2.block _ (Rope.blk_lt HXc.out)).trans HXc.out))).trans ((hb2.block _ (Rope.blk_lt HXc.out)).trans HXc.out)))).trans ((hb4.block _ (Rope.blk_lt ((hb2.block _ (Rope.blk_lt HXc.out)).trans HXc.out))).trans ((hb2.block _ (Rope.blk_lt HXc.out)).trans HXc.out))⟩
      clear hb2 hb4 hb5 hV2 hV4
      go_wp2_with fail
      refine (Rope.Text_void _ _ hV5).mono ?_
      rintro e w6 ⟨rfl, rfl⟩
      go_wp2_with fail
      refine (Rope.Len_void _ _ hV5).mono ?_
      rintro e w6 ⟨rfl, rfl⟩
      go_wp2_with fail
      refine (Rope.Lines_void _ _ hV5).mono ?_
      rintro e w6 ⟨rfl, rfl⟩
      go_wp2_with fail
      refine (Rope.Pieces_void _ _ hV5).mono ?_
      rintro e w6 ⟨rfl, rfl⟩
      go_wp2_with fail
      go_roundg 0
      case measure => have := HK.out; omega
      case rel => exact ⟨2, rfl, ⟨by have := HK.out; omega⟩, HXn, HBn⟩
    | 2, _ =>
      go_wp2_with fail
      refine (marginalialaw01_alive.calls true _ rfl).mono ?_
      rintro e w2 ⟨rfl, hb2⟩
      go_wp2_with fail
      go_ret
      exact ⟨rfl, Kx.below_step HB.out hb2⟩
end Go.Proofs.Ytfllpoonfhiipaa.Pure
