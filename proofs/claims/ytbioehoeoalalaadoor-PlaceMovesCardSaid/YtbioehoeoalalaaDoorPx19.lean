-- printed by xprint (a program of this session)
import Derived.Test.YtbioehoeoalalaaDoorPx0
import Derived.Test.YtbioehoeoalalaaDoorPx18
namespace Go.Proofs.YtbioehoeoalalaaDoor.P
open Go.RowKit Go.Proofs.YtbioehoeoalalaaDoorW.PrintWords Go.Proofs.YtbioehoeoalalaaDoorW.PrintLast Go.Proofs.YtbioehoeoalalaaDoorW.PrintMore
attribute [local go_sem] max2_int min2_int max_two min_two max_three min_three max_four min_four   -- for this text's walks alone
set_option linter.unusedVariables false
set_option linter.unusedSimpArgs false

/-! ### rope_Apply: function 38 -/
-- GIVEN PART
def rope_Apply.go (s : ByteArray) : List (S73) → Int → List UInt8 → Option (List UInt8)
  | [], p, acc => if 0 ≤ p then (if p ≤ (s.size : Int) then (if acc.length + (s.extract p.toNat s.size).size ≤ 140737488355328 then some (acc ++ (s.extract p.toNat s.size).data.toList) else none) else none) else none
  | e :: r, p, acc => if 0 ≤ p then (if p ≤ e.f0 then (if e.f0 ≤ (s.size : Int) then (if acc.length + (s.extract p.toNat e.f0.toNat).size + e.f2.size ≤ 140737488355328 then rope_Apply.go s r e.f1 (acc ++ (s.extract p.toNat e.f0.toNat).data.toList ++ e.f2.data.toList) else none) else none) else none) else none
def rope_Apply.f (k : Nat) (a0 : ByteArray) (l1 : List (S73)) : Option (ByteArray × Int) := (rope_Check.f k a0 l1).bind fun t => if t = 0 then (rope_Apply.go a0 l1 0 []).map (fun l => (⟨l.toArray⟩, 0)) else some (⟨#[]⟩, t)
theorem rope_Apply.mono : ∀ a0 a1 k, LeO (rope_Apply.f k a0 a1) (rope_Apply.f (k + 1) a0 a1) := by
  intro a0 a1 k
  unfold rope_Apply.f
  exact LeO.bind (rope_Check.mono _ _ _) (fun _ => LeO.refl _)
set_option maxHeartbeats 8000000 in
set_option maxRecDepth 100000 in
theorem rope_Apply.calls (k : Nat) (a0 : ByteArray) (A1 : Option Addr) (c1 : Nat) (l1 : List (S73)) (r1 : ByteArray) (r2 : Int) (w : World) (hr1 : Kd.C k73 w A1 l1.length l1) (hc1 : l1.length ≤ c1) (h : rope_Apply.f k a0 l1 = some (r1, r2)) :
    Calls Tryd.prog 38 #[.string a0, .slice A1 l1.length c1] w fun e w' => e = .returned (.tuple #[.string r1, .int .i64 r2]) ∧ Below w.heap.size w w' := by
  have hu := Tryd.underlying73
  unfold rope_Apply.f at h
  obtain ⟨t, ht, h⟩ := Option.bind_eq_some_iff.mp h
  by_cases c : t = 0
  · rw [if_pos c] at h
    have c0 : (t != 0) = false := bne_eq_false_iff_eq.mpr c
    obtain ⟨l, hl, h⟩ := Option.map_eq_some_iff.mp h
    simp only [Prod.mk.injEq] at h
    obtain ⟨rfl, rfl⟩ := h
    clear c
    go_enter Tryd.func38, Tryd.ntmps38
    go_wp2_with (go_at_call 48; refine (rope_Check.calls k a0 _ _ l1 t _ hr1 hc1 ht).mono ?_; rintro e w1 ⟨rfl, hb⟩)
    have hb0 : Below w.heap.size w (w1.alloc (.cells #[.pointer none, .slice none 0 0] 85)) := below_alloc hb _
    have hB0 : Bld.IsB w.heap.size w1.heap.size [] (w1.alloc (.cells #[.pointer none, .slice none 0 0] 85)) := Bld.IsB.new hb.size
    have HB0 := Aside0.mk hb0
    have HI0 := Aside0.mk hB0
    have HL := Aside0.mk hl
    have HR := Aside0.mk hr1
    clear hb0 hB0 hl hr1
    go_loopg [8, 19] l1.length (fun kq v8 v19 w' => ∃ (i : Nat) (p : Int) (acc : List UInt8), v8 = .int .i64 p ∧ v19 = .int .i64 i ∧ Aside0 (i + kq = l1.length) ∧ Aside0 (rope_Apply.go a0 (l1.drop i) p acc = some l) ∧ Aside0 (Bld.IsB w.heap.size w1.heap.size acc w') ∧ Aside0 (Below w.heap.size w w'))
    case atStart => exact ⟨0, 0, [], rfl, rfl, ⟨by omega⟩, HL, HI0, HB0⟩
    case round =>
      clear HL HI0 HB0
      obtain ⟨i, p, acc, rfl, rfl, HK, HA, HI, HB⟩ := hrel
      have hmax : l1.length ≤ 9223372036854775807 := HR.out.2.1
      by_cases hlt : i < l1.length
      · have hd : decide ((i : Int) < (l1.length : Int)) = true := decide_eq_true (by omega)
        have H := HA.out
        rw [List.drop_eq_getElem_cons hlt] at H
        simp only [rope_Apply.go] at H
        obtain ⟨h0, H⟩ := Ut.ite_some H
        obtain ⟨h1, H⟩ := Ut.ite_some H
        obtain ⟨h2, H⟩ := Ut.ite_some H
        obtain ⟨h3, H⟩ := Ut.ite_some H
        have hrd : rd_T73 l1 (i : Int) = l1[i] := by simp [rd_T73, hlt]
        obtain ⟨ad, e, hx0, hx1, hx2⟩ := at_T73 HR.out (i : Int) (by omega) (by omega)
        rw [hrd, Int.toNat_natCast] at hx0 hx1 hx2
        cases e
        replace hx0 := (HB.out.cell (World.block_lt_of_cell? w _ hx0)).trans hx0
        replace hx1 := (HB.out.cell (World.block_lt_of_cell? w _ hx1)).trans hx1
        replace hx2 := (HB.out.cell (World.block_lt_of_cell? w _ hx2)).trans hx2
        generalize l1[i] = x at *
        go_wp2_with fail
        refine (Bld.write w.heap.size w1.heap.size acc _ _ (HI.out.alloc _) (by omega) (below_size (below_alloc HB.out _))).mono ?_
        rintro e w2 ⟨rfl, hI2, hb2, hk2⟩
        have hbox : w2.heap[wr.heap.size]? = some (.cells #[.int .i64 x.f0, .int .i64 x.f1, .string x.f2] 73 (0, 0)) :=
          hk2 _ _ (Bld.alloc_at _ _) (by have := HI.out.lt; simp; omega) (by intro c fz e; injection e with _ e2; exact absurd e2 (by decide))
        have hz1 : w2.cell? ⟨wr.heap.size, 1, none⟩ = some (.int .i64 x.f1) := by rw [Lib.cell_of_heap hbox]; rfl
        have hz2 : w2.cell? ⟨wr.heap.size, 2, none⟩ = some (.string x.f2) := by rw [Lib.cell_of_heap hbox]; rfl
        go_wp2_with fail
        have hB2 : Below w.heap.size w w2 := (below_alloc HB.out _).trans hb2
        refine (Bld.write w.heap.size w1.heap.size _ _ _ hI2 (by simp; simp at h3; omega) (below_size hB2)).mono ?_
        rintro e w3 ⟨rfl, hI3, hb3, hk3⟩
        have hbox3 := hk3 _ _ hbox (by have := HI.out.lt; simp; omega) (by intro c fz e; injection e with _ e2; exact absurd e2 (by decide))
        have hz3 : w3.cell? ⟨wr.heap.size, 1, none⟩ = some (.int .i64 x.f1) := by rw [Lib.cell_of_heap hbox3]; rfl
        have HA' := Aside0.mk H
        clear H HA
        cases gk with
        | zero => exact absurd hlt (by have := HK.out; omega)
        | succ kq' =>
        go_wp2_with fail
        go_roundg kq'
        case measure => omega
        case rel => exact ⟨i + 1, x.f1, _, rfl, by go_num, ⟨by have := HK.out; omega⟩, HA', ⟨hI3⟩, ⟨hB2.trans hb3⟩⟩
      · have hd : decide ((i : Int) < (l1.length : Int)) = false := decide_eq_false (by omega)
        have H := HA.out
        rw [List.drop_of_length_le (by have := HK.out; omega)] at H
        simp only [rope_Apply.go] at H
        obtain ⟨h0, H⟩ := Ut.ite_some H
        obtain ⟨h1, H⟩ := Ut.ite_some H
        obtain ⟨h2, H⟩ := Ut.ite_some H
        simp only [Option.some.injEq] at H
        go_wp2_with fail
        refine (Bld.write w.heap.size w1.heap.size acc _ _ HI.out (by omega) (below_size HB.out)).mono ?_
        rintro e w2 ⟨rfl, hI2, hb2, hk2⟩
        rw [H] at hI2
        go_wp2_with fail
        refine (Bld.string w.heap.size w1.heap.size l _ hI2 (below_size (HB.out.trans hb2))).mono ?_
        rintro e w3 ⟨rfl, hb3⟩
        go_wp2_with fail
        go_ret2
        exact ⟨rfl, (HB.out.trans hb2).trans hb3⟩
  · rw [if_neg c] at h
    have c0 : (t != 0) = true := bne_iff_ne.mpr c
    simp only [Option.some.injEq, Prod.mk.injEq] at h
    obtain ⟨rfl, rfl⟩ := h
    clear c
    go_enter Tryd.func38, Tryd.ntmps38
    go_wp2_with (go_at_call 48; refine (rope_Check.calls k a0 _ _ l1 t _ hr1 hc1 ht).mono ?_; rintro e w1 ⟨rfl, hb⟩)
    go_ret2
    exact ⟨rfl, hb⟩

end Go.Proofs.YtbioehoeoalalaaDoor.P
