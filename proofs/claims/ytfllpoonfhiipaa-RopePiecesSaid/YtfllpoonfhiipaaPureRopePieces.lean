/- A rope has no more pieces than its edits make: the law returns true. -/
import Derived.Test.YtfllpoonfhiipaaRopeSp4
import Derived.Test.YtfllpoonfhiipaaPureRopeBack
import Derived.Outline
set_option linter.unusedVariables false
namespace Go.Proofs.Ytfllpoonfhiipaa.Pure
open Go.RowKit Go.Proofs.Ytfllpoonfhiipaa Go.Proofs.Ytfllpoonfhiipaa.P Go.Proofs.YtfllpoonfhiipaaW.PrintWords Go.Proofs.YtfllpoonfhiipaaW.PrintLast Go.Proofs.YtfllpoonfhiipaaW.PrintMore
attribute [local go_sem] max2_int min2_int max_two min_two max_three min_three max_four min_four
theorem one_full (s : ByteArray) : Full (Rope.one s) := by
  unfold Rope.one
  split
  · intro x hx; cases hx
  · intro x hx
    rw [List.mem_singleton.1 hx]
    omega
theorem row_at {W : World} {A1 : Option Addr} {a1 : List (List Ed)} (h : Kd.C (Kd.slice 47 k47) W A1 a1.length a1) (i : Nat) (hi : i < a1.length) :
    ∃ ad A c, A1 = some ad ∧ W.cell? (ad.add i) = some (.slice A a1[i].length c) ∧ a1[i].length ≤ c ∧ Kd.C k47 W A a1[i].length a1[i] := by
  obtain ⟨ad, cs, e, _, hK, hc⟩ := Kd.C_get h [] (i : Int) (by omega) (by omega)
  have e1 : a1.getD (i : Int).toNat [] = a1[i] := by simp [List.getD_eq_getElem?_getD, hi]
  rw [e1] at hK
  obtain ⟨A, c, rfl, h1, h2⟩ := hK
  refine ⟨ad, A, c, e, ?_, h1, h2⟩
  have := hc 0 _ rfl
  simpa [Kd.slice] using this
set_option maxHeartbeats 8000000 in
set_option maxRecDepth 100000 in
theorem RopePieces (W : World) (a0 : ByteArray) (A1 : Option Addr) (c1 : Nat) (a1 : List (List (S47))) (hr1 : Kd.C (Kd.slice 47 k47) W A1 a1.length a1) (hc1 : a1.length ≤ c1)
    (ok0 : OpG.okS a0) (ok1 : (fun l => l.length ≤ 9223372036854775807 ∧ ∀ a ∈ l, (fun l => l.length ≤ 9223372036854775807 ∧ ∀ a ∈ l, ok47 a) a) a1) :
    Calls Try.prog 9 #[.string a0, .slice A1 a1.length c1] W fun e w' => e = .returned (.bool true) ∧ Below W.heap.size W w' := by
  have hz := short_size a0
  have hSh := Short_eq a0
  have HO := Aside0.mk ok1
  have HR := Aside0.mk hr1
  have hm := ok1.1
  clear ok0 ok1 hr1
  go_enter Try.func9, Try.ntmps9
  go_wp2_with fail
  refine (marginaliaref01_Short.calls a0 _ _ hSh).mono ?_
  rintro e w1 ⟨rfl, hb1⟩
  have HB1 := Aside0.mk hb1
  generalize short a0 = s at *
  clear hb1 hSh
  by_cases hs : s.size ≤ 20000
  · go_wp2_with fail
    refine (Rope.New_ok s _ hs).mono ?_
    rintro e w2 ⟨v2, rfl, hI2, hb2⟩
    have HB2 := Aside0.mk (Kx.below_step HB1.out hb2)
    clear hb2 HB1
    obtain ⟨g2, u2, hv2, _⟩ := hI2.open
    subst hv2
    have HI2 := Aside0.mk hI2
    have hpl : (Rope.one s).length = min 1 s.size := by unfold Rope.one; split <;> simp <;> omega
    clear hI2
    go_wp2_with fail
    refine (Rope.Pieces_ok _ _ _ HI2.out).mono ?_
    rintro e w3 ⟨rfl, rfl⟩
    rw [show (Rope.Rp.base (Rope.one s)).ps.length = min 1 s.size from hpl]
    have hpp : (if (s.size : Int) < 1 then (s.size : Int) else 1) = ((min 1 s.size : Nat) : Int) := by split <;> omega
    go_wp2_with fail
    go_loopg [6, 8] 12 (fun kq v6 v8 w' => ∃ (i g : Nat) (r : Rope.Rp), v6 = .pointer (some ⟨g, 0, none⟩) ∧ v8 = .int .i64 i ∧ Aside0 (i + kq = 12) ∧ Aside0 (Rope.IsRp w' (.pointer (some ⟨g, 0, none⟩)) r ∧ Full r.ps ∧ Rope.tot r.ps ≤ 20000) ∧ Aside0 (Below W.heap.size W w'))
    case atStart => exact ⟨0, g2, _, rfl, rfl, ⟨by omega⟩, ⟨HI2.out, one_full s, by show Rope.tot (Rope.one s) ≤ _; rw [tot_one]; exact hs⟩, HB2⟩
    case round =>
      clear HI2 HB2 hpl hpp
      obtain ⟨i, g, r, rfl, rfl, HK, HI, HB⟩ := hrel
      by_cases hlt : i < a1.length ∧ i < 12
      · obtain ⟨hl1, hl2⟩ := hlt
        obtain ⟨ad, A, c, rfl, hx, hcc, hC⟩ := row_at HR.out i hl1
        have hx' := (HB.out.cell (World.block_lt_of_cell? W _ hx)).trans hx
        have hCw := Kd.C_below hC HB.out
        have hok := HO.out.2 a1[i] (List.getElem_mem hl1)
        clear hx hC
        generalize a1[i] = l at *
        obtain ⟨K1, hK1⟩ := Cut_ev l 400 hok.1
        have hcut := hK1 K1 (Nat.le_refl _)
        have hf : Fit (cut 400 l) := (cut_fine hok.2).fit (by omega)
        clear hK1 hok
        cases gk with
        | zero => exact absurd hl2 (by have := HK.out; omega)
        | succ kq' =>
        go_wp2_with fail
        refine (marginaliaref01_Cut.calls K1 _ _ l 400 _ _ hCw hcc hcut).mono ?_
        rintro e w4 ⟨v4, rfl, hv4, hb4⟩
        obtain ⟨A4, c4, rfl, hc4, hC4⟩ := Kd.R_reads hv4
        have HB4 := Aside0.mk (Kx.below_step HB.out hb4)
        have HI4 : Aside0 (Rope.IsRp w4 (.pointer (some ⟨g, 0, none⟩)) r ∧ Full r.ps ∧ Rope.tot r.ps ≤ 20000) := ⟨HI.out.1.below hb4, HI.out.2⟩
        clear hv4 hb4 hCw hcut hx' hcc HB HI
        generalize cut 400 l = t at *
        have hrl : r.ps.length ≤ 20000 := by have := (full_len HI4.out.2.1).1; have := HI4.out.2.2; omega
        by_cases h : chk (Rope.tot r.ps) t = 0
        · obtain ⟨t1, t2⟩ := edit_tot r.ps t h
          have t3 := editP_most r.ps t (chk_ok h).2.2.1
          have t4 := editP_full r.ps (Rope.tot r.ps) t 0
          go_wp2_with fail
          refine (Rope.Edit_ok _ r _ _ t _ HI4.out.1 HI4.out.2.2 (by omega) hf hC4 hc4 h (by omega)).mono ?_
          rintro e w5 ⟨v5, rfl, hI5, hb5⟩
          have hC5 := Aside0.mk (Kd.C_below hC4 hb5)
          have HB5 := Aside0.mk (Kx.below_step HB4.out hb5)
          have HO5 := Aside0.mk (HI4.out.1.below hb5)
          obtain ⟨g5, u5, hv5, _⟩ := hI5.open
          subst hv5
          have HI5 : Aside0 (Rope.IsRp w5 (.pointer (some ⟨g5, 0, none⟩)) (.step (Rope.editP r.ps (Rope.tot r.ps) 0 t) r) ∧ Full (Rope.editP r.ps (Rope.tot r.ps) 0 t) ∧ Rope.tot (Rope.editP r.ps (Rope.tot r.ps) 0 t) ≤ 20000) := ⟨hI5, t4, t1⟩
          have HT := Aside0.mk t3
          have htl := hf.1
          have htm : t.length ≤ 9223372036854775807 := by omega
          have HF := Aside0.mk hf
          clear hb5 hC4 HB4 HI4 hI5 t1 t2 t3 t4 h hf
          go_wp2_with fail
          refine (Rope.Pieces_ok _ _ _ HO5.out).mono ?_
          rintro e w6 ⟨rfl, rfl⟩
          go_wp2_with fail
          clear HO5
          go_loopg [12, 13] t.length (fun kq2 v12 v13 w' => ∃ (k m : Nat), v12 = .int .i64 m ∧ v13 = .int .i64 k ∧ Aside0 (m = r.ps.length + most (t.take k)) ∧ Aside0 (k + kq2 = t.length) ∧ Aside0 (Below w6.heap.size w6 w'))
          case atStart => exact ⟨0, r.ps.length, rfl, rfl, ⟨by simp [most]⟩, ⟨by omega⟩, ⟨Below.refl _ _⟩⟩
          case round =>
            obtain ⟨k, m, rfl, rfl, HM, HK2, HBk⟩ := hrel
            have hmm : m ≤ 30000 := by have := HM.out; have := most_le (t.take k); have := List.length_take_le' k t; omega
            by_cases hk : k < t.length
            · obtain ⟨ad2, e, hx0, hx1, hx2⟩ := at_T47 hC5.out (k : Int) (by omega) (by omega)
              have hrd : rd_T47 t (k : Int) = t[k] := by simp [rd_T47, hk]
              rw [hrd, Int.toNat_natCast] at hx0 hx1 hx2
              cases e
              replace hx2 := (HBk.out.cell (World.block_lt_of_cell? w6 _ hx2)).trans hx2
              have HM2 := Aside0.mk (most_take t k hk)
              clear hrd hx0 hx1
              generalize t[k] = x at *
              cases gk with
              | zero => exact absurd hk (by have := HK2.out; omega)
              | succ kq2' =>
              have hmin : (if (x.f2.size : Int) < 1 then (x.f2.size : Int) else 1) = ((min 1 x.f2.size : Nat) : Int) := by split <;> omega
              have hmz : min 1 x.f2.size ≤ 1 := Nat.min_le_left _ _
              go_wp2_with fail
              go_roundg kq2'
              case measure => omega
              case rel => exact ⟨k + 1, m + (2 + min 1 x.f2.size), by go_num, by go_num, ⟨by rw [HM2.out, HM.out]; omega⟩, ⟨by have := HK2.out; omega⟩, HBk⟩
            · have hkl : k = t.length := by have := HK2.out; omega
              have hM := HM.out
              rw [List.take_of_length_le (by omega)] at hM
              have HI6 : Aside0 (Rope.IsRp wr (.pointer (some ⟨g5, 0, none⟩)) (.step (Rope.editP r.ps (Rope.tot r.ps) 0 t) r) ∧ Full (Rope.editP r.ps (Rope.tot r.ps) 0 t) ∧ Rope.tot (Rope.editP r.ps (Rope.tot r.ps) 0 t) ≤ 20000) := ⟨HI5.out.1.below HBk.out, HI5.out.2⟩
              have HB6 := Aside0.mk (Kx.below_step HB5.out HBk.out)
              have hfl := full_len HI6.out.2.1
              have hT := HT.out
              have hl6 := HI6.out.2.2
              clear HBk HB5 HI5
              go_wp2_with fail
              refine (Rope.Pieces_ok _ _ _ HI6.out.1).mono ?_
              rintro e w7 ⟨rfl, rfl⟩
              rw [show (Rope.Rp.step (Rope.editP r.ps (Rope.tot r.ps) 0 t) r).ps = Rope.editP r.ps (Rope.tot r.ps) 0 t from rfl]
              obtain ⟨pl, hpl⟩ : ∃ pl, pl = (Rope.editP r.ps (Rope.tot r.ps) 0 t).length := ⟨_, rfl⟩
              obtain ⟨tl, htl'⟩ : ∃ tl, tl = Rope.tot (Rope.editP r.ps (Rope.tot r.ps) 0 t) := ⟨_, rfl⟩
              rw [← hpl] at hT hfl ⊢
              rw [← htl'] at hfl hl6
              have HTL := Aside0.mk htl'
              clear hpl htl'
              go_wp2_with fail
              refine (Rope.Len_ok _ _ _ HI6.out.1).mono ?_
              rintro e w8 ⟨rfl, rfl⟩
              rw [show Rope.tot (Rope.Rp.step (Rope.editP r.ps (Rope.tot r.ps) 0 t) r).ps = tl from HTL.out.symm]
              have hmin : (if (tl : Int) < 1 then (tl : Int) else 1) = ((min 1 tl : Nat) : Int) := by split <;> omega
              go_wp2_with fail
              refine (Rope.Len_ok _ _ _ HI6.out.1).mono ?_
              rintro e w8 ⟨rfl, rfl⟩
              rw [show Rope.tot (Rope.Rp.step (Rope.editP r.ps (Rope.tot r.ps) 0 t) r).ps = tl from HTL.out.symm]
              go_wp2_with fail
              go_roundg kq'
              case measure => omega
              case rel => exact ⟨i + 1, g5, _, rfl, by go_num, ⟨by have := HK.out; omega⟩, HI6, HB6⟩
        · have hne : (chk (Rope.tot r.ps) t != 0) = true := bne_iff_ne.mpr h
          go_wp2_with fail
          refine (Rope.Edit_err _ r _ _ t _ HI4.out.1 HI4.out.2.2 hf hC4 hc4 h).mono ?_
          rintro e w5 ⟨rfl, hb5⟩
          have HB5 := Aside0.mk (Kx.below_step HB4.out hb5)
          have HI5 : Aside0 (Rope.IsRp w5 (.pointer (some ⟨g, 0, none⟩)) r ∧ Full r.ps ∧ Rope.tot r.ps ≤ 20000) := ⟨HI4.out.1.below hb5, HI4.out.2⟩
          clear hb5 hC4 HB4 HI4 h hf
          generalize chk (Rope.tot r.ps) t = z at *
          go_wp2_with fail
          go_roundg kq'
          case measure => omega
          case rel => exact ⟨i + 1, g, r, rfl, by go_num, ⟨by have := HK.out; omega⟩, HI5, HB5⟩
      · by_cases hl1 : i < a1.length
        · have hl2 : ¬ i < 12 := fun h => hlt ⟨hl1, h⟩
          clear hlt
          go_wp2_with fail
          refine (marginalialaw01_alive.calls true _ rfl).mono ?_
          rintro e w2 ⟨rfl, hb2⟩
          go_wp2_with fail
          go_ret
          exact ⟨rfl, Kx.below_step HB.out hb2⟩
        · clear hlt
          go_wp2_with fail
          refine (marginalialaw01_alive.calls true _ rfl).mono ?_
          rintro e w2 ⟨rfl, hb2⟩
          go_wp2_with fail
          go_ret
          exact ⟨rfl, Kx.below_step HB.out hb2⟩
  · go_wp2_with fail
    refine (Rope.New_long s _ (by omega)).mono ?_
    rintro e w2 ⟨rfl, rfl⟩
    go_wp2_with fail
    refine (marginalialaw01_alive.calls true _ rfl).mono ?_
    rintro e w2 ⟨rfl, hb2⟩
    go_wp2_with fail
    go_ret
    exact ⟨rfl, Kx.below_step HB1.out hb2⟩
end Go.Proofs.Ytfllpoonfhiipaa.Pure
