/- cut, Slice, Line and Edit of a rope that was made. -/
import Derived.Test.YtfllpoonfhiipaaRopeV
import Derived.Test.YtfllpoonfhiipaaRopeSp
import Derived.Deep.OwnRows
import Derived.Deep.AppendLies
import Derived.Lib.AppendStr
import Derived.Deep.RegionHeld3
import Derived.Test.YtfllpoonfhiipaaKx
set_option linter.unusedVariables false
namespace Go.Proofs.Ytfllpoonfhiipaa.Rope
open Go.RowKit Go.Proofs.Ytfllpoonfhiipaa Go.Proofs.Ytfllpoonfhiipaa.P Go.Proofs.Ytfllpoonfhiipaa.Bld Go.Proofs.YtfllpoonfhiipaaW.PrintWords Go.Proofs.YtfllpoonfhiipaaW.PrintLast Go.Proofs.YtfllpoonfhiipaaW.PrintMore
attribute [local go_sem] max2_int min2_int max_two min_two max_three min_three max_four min_four
theorem infoString : (Try.prog.info? 9).map (fun i => (i.zero, i.size, i.bytes)) = some (some (.string ⟨#[]⟩), 1, 16) := by kernel_rfl
theorem tot_cons (s : ByteArray) (r : List ByteArray) : tot (s :: r) = s.size + tot r := by simp [tot]
/-- The pieces of a span. -/
def cutP (a b : Int) : Int → List ByteArray → List ByteArray
  | _, [] => []
  | p, s :: r => if (if a - p < 0 then 0 else a - p) < (if (s.size : Int) < b - p then (s.size : Int) else b - p) then s.extract (if a - p < 0 then 0 else a - p).toNat (if (s.size : Int) < b - p then (s.size : Int) else b - p).toNat :: cutP a b (p + s.size) r else cutP a b (p + s.size) r
theorem cutP_length (a b : Int) : ∀ (r : List ByteArray) (p : Int), (cutP a b p r).length ≤ r.length
  | [], _ => by simp [cutP]
  | s :: r, p => by
    have := cutP_length a b r (p + s.size)
    simp only [cutP]
    generalize (if a - p < 0 then 0 else a - p) = x
    generalize (if (s.size : Int) < b - p then (s.size : Int) else b - p) = y
    split <;> simp <;> omega
def SR (w : World) (B : Nat) (v : Value) (xs : List ByteArray) : Prop := w.ownsRow B 9 1 v xs.length (xs.map Value.string)
set_option maxHeartbeats 4000000 in
set_option maxRecDepth 100000 in
theorem cut_ok (v : Value) (r : Rp) (a b : Int) (w : World) (h : IsRp w v r) (hs : tot r.ps ≤ 1000000) (ha : 0 ≤ a) (ha2 : a ≤ 1000000) (hb : 0 ≤ b) (hb2 : b ≤ 1000000) (hn : r.ps.length ≤ 1000000) :
    Calls Try.prog 50 #[v, .int .i64 a, .int .i64 b] w fun e w' => ∃ u, e = .returned u ∧ SR w' w.heap.size u (cutP a b 0 r.ps) ∧ Below w.heap.size w w' := by
  obtain ⟨g, u, rfl, hl⟩ := h.open
  obtain ⟨A, c, h0, h1, h2, h3, hc, hr⟩ := hl.cells
  obtain ⟨i0, hi, hz0, hz1, hz2⟩ := info_parts infoString
  have HR := Aside0.mk hr
  clear hr h hl h1 h2 h3
  go_enter Try.func50, Try.ntmps50
  go_wp2_with fail
  go_loopg [7, 8, 18] r.ps.length (fun kq v7 v8 v18 w' => ∃ (i : Nat) (p : Int) (acc : List ByteArray), v8 = .int .i64 p ∧ v18 = .int .i64 i ∧ Aside0 (i + kq = r.ps.length) ∧ Aside0 (acc ++ cutP a b p (r.ps.drop i) = cutP a b 0 r.ps) ∧ Aside0 (acc.length ≤ i) ∧ Aside0 (0 ≤ p ∧ p + tot (r.ps.drop i) ≤ 1000000) ∧ Aside0 (SR w' w.heap.size v7 acc) ∧ Aside0 (Below w.heap.size w w'))
  case atStart => exact ⟨0, 0, [], rfl, rfl, ⟨by omega⟩, ⟨by simp⟩, ⟨by simp⟩, ⟨by simp; omega⟩, ⟨⟨by simp, .inl ⟨rfl, rfl⟩⟩⟩, ⟨Below.refl _ _⟩⟩
  case round =>
    obtain ⟨i, p, acc, rfl, rfl, HK, HC, HL, HP, HO, HB⟩ := hrel
    by_cases hlt : i < r.ps.length
    · obtain ⟨bk, o, rfl, hx⟩ := HR.out.2 (by omega)
      have hx1 := hx i _ (List.getElem?_eq_getElem hlt)
      replace hx1 := (HB.out.cell (World.block_lt_of_cell? w _ hx1)).trans hx1
      have hC := HC.out
      have hP := HP.out
      rw [List.drop_eq_getElem_cons hlt] at hC hP
      rw [tot_cons] at hP
      clear hx
      generalize r.ps[i] = s at *
      simp only [cutP] at hC
      obtain ⟨p0, p1⟩ := hP
      obtain ⟨x, hxa⟩ : ∃ x : Int, (if a - p < 0 then 0 else a - p) = x := ⟨_, rfl⟩
      obtain ⟨y, hyb⟩ : ∃ y : Int, (if (s.size : Int) < b - p then (s.size : Int) else b - p) = y := ⟨_, rfl⟩
      rw [hxa, hyb] at hC
      have hx0 : 0 ≤ x := by rw [← hxa]; split <;> omega
      have hys : y ≤ s.size := by rw [← hyb]; split <;> omega
      have HO' := HO.out
      unfold SR at HO'
      have HH := Aside0.mk HO'
      clear HO' HO
      have hmx := HR.out.1
      by_cases hxy : x < y
      · rw [if_pos hxy] at hC
        have hxy' : x ≤ y := by omega
        have HC2 := Aside0.mk hC
        clear hC HC
        go_wp2_with (at_builtin; refine wpList_append_own _ rfl _ _ 63 rfl w.heap.size 9 i0 (.string ⟨#[]⟩) 1 16 Try.underlying63 hi hz0 hz1 hz2 rfl (by decide) _ _ _ rfl (HH.out.alloc _) ⟨wr.heap.size, 0, none⟩ 1 1 [.string (s.extract x.toNat y.toNat)] rfl rfl ?c1 ?c2 ?c3 ?c4 ?c5 ?_)
        case c1 =>
          intro j u hj
          match j, hj with
          | 0, hj =>
            simp only [List.getElem?_cons_zero, Option.some.injEq] at hj
            subst hj
            rw [show (⟨wr.heap.size, 0, none⟩ : Addr).add 0 = ⟨wr.heap.size, 0, none⟩ from rfl, Lib.cell_of_heap (alloc_at _ _)]
            rfl
        case c2 => intro u hu; simp only [List.mem_singleton] at hu; subst hu; rfl
        case c3 => unfold maxLen; have := HL.out; omega
        case c4 => have := HL.out; omega
        case c5 => have := HB.out.size; simp; omega
        intro v' w2 hown' hgrow _
        have HN := Aside0.mk (((HB.out.alloc HB.out.size _).grown hgrow (by have := HB.out.size; simp; omega) (fun k hk => (HH.out.lt k hk).1)))
        have HO2 := Aside0.mk hown'
        clear hown' hgrow
        cases gk with
        | zero => exact absurd hlt (by have := HK.out; omega)
        | succ kq' =>
        go_wp2_with fail
        go_roundg kq'
        case measure => omega
        case rel => exact ⟨i + 1, p + s.size, acc ++ [s.extract x.toNat y.toNat], rfl, by go_num, ⟨by have := HK.out; omega⟩, ⟨by rw [← HC2.out]; simp⟩, ⟨by have := HL.out; simp; omega⟩, ⟨by omega⟩, ⟨by unfold SR; simpa using HO2.out⟩, HN⟩
      · rw [if_neg hxy] at hC
        have HC2 := Aside0.mk hC
        clear hC HC
        have HO2 := HH
        cases gk with
        | zero => exact absurd hlt (by have := HK.out; omega)
        | succ kq' =>
        go_wp2_with fail
        go_roundg kq'
        case measure => omega
        case rel => exact ⟨i + 1, p + s.size, acc, rfl, by go_num, ⟨by have := HK.out; omega⟩, HC2, ⟨by have := HL.out; omega⟩, ⟨by omega⟩, HO2, HB⟩
    · have hC := HC.out
      rw [List.drop_of_length_le (by omega)] at hC
      simp only [cutP, List.append_nil] at hC
      have HO' := HO.out
      rw [hC] at HO'
      have HO2 := Aside0.mk HO'
      clear HO' hC HO HC
      go_wp2_with fail
      go_ret
      exact ⟨_, rfl, HO2.out, HB.out⟩
theorem check_n (n : Nat) (l : List Ed) (hn : n ≤ 20000) (hf : Fit l) : Ev (fun k => rope_check.f k (n : Int) l) (chk n l) := by
  have hl : l.length ≤ 9223372036854775807 := by have := hf.1; omega
  have hns : newSum l ≤ 1000000 := hf.2
  unfold rope_check.f chk
  rw [if_neg (by omega)]
  refine Ev.bind (spans_ev l n hl) ?_
  by_cases h2 : (l.length : Int) > 100
  · simp only [if_pos h2]
    exact Ev.neg (by decide) (Ev.now _)
  simp only [if_neg h2]
  by_cases h3 : sp n 0 l = true
  · simp only [if_pos h3]
    have h4 := span_le h3 (by omega)
    exact Ev.pos (by simp) (check_l0 l n (by omega) hl hns l 0 n 0 rfl h3 (by omega) (by omega) (by omega) (by omega))
  · simp only [if_neg h3]
    exact Ev.neg (by decide) (Ev.now _)
set_option maxHeartbeats 4000000 in
set_option maxRecDepth 100000 in
theorem Edit_err (v : Value) (r : Rp) (A1 : Option Addr) (c1 : Nat) (l : List Ed) (w : World) (h : IsRp w v r) (hs : tot r.ps ≤ 20000) (hf : Fit l) (hr1 : Kd.C k47 w A1 l.length l) (hc1 : l.length ≤ c1) (he : ¬ chk (tot r.ps) l = 0) :
    Calls Try.prog 32 #[v, .slice A1 l.length c1] w fun e w' => e = .returned (.tuple #[.pointer none, .int .i64 (chk (tot r.ps) l)]) ∧ Below w.heap.size w w' := by
  obtain ⟨g, u, rfl, hl⟩ := h.open
  obtain ⟨A, c, h0, h1, h2, h3, hc, hr⟩ := hl.cells
  obtain ⟨K, hK⟩ := check_n (tot r.ps) l hs hf
  have hk := hK K (Nat.le_refl _)
  have hne : (chk (tot r.ps) l != 0) = true := bne_iff_ne.mpr he
  clear hr h hl h0 h2 hK he
  generalize chk (tot r.ps) l = z at *
  go_enter Try.func32, Try.ntmps32
  go_wp2_with (go_at_call 49; refine (none_made g _ h3).mono ?_; rintro e w1 ⟨rfl, rfl⟩)
  refine (rope_check.calls K _ _ _ l z _ hr1 hc1 hk).mono ?_
  rintro e w2 ⟨rfl, hb⟩
  go_wp2_with fail
  go_ret2
  exact ⟨rfl, hb⟩
end Go.Proofs.Ytfllpoonfhiipaa.Rope
