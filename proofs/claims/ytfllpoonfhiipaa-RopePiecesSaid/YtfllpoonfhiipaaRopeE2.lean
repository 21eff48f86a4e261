/- Edit of a rope that was made. -/
import Derived.Test.YtfllpoonfhiipaaRopeE
import Derived.Deep.RegionLaw
import Derived.Lib.BufferMore
set_option linter.unusedVariables false
namespace Go.Proofs.Ytfllpoonfhiipaa.Rope
open Go.RowKit Go.Proofs.Ytfllpoonfhiipaa Go.Proofs.Ytfllpoonfhiipaa.P Go.Proofs.Ytfllpoonfhiipaa.Bld Go.Proofs.YtfllpoonfhiipaaW.PrintWords Go.Proofs.YtfllpoonfhiipaaW.PrintLast Go.Proofs.YtfllpoonfhiipaaW.PrintMore
attribute [local go_sem] max2_int min2_int max_two min_two max_three min_three max_four min_four
theorem RS.far {w : World} {A : Option Addr} {xs : List ByteArray} {b : Nat} (h : RS w A xs) (hd : ∀ bk o, A = some ⟨bk, o, none⟩ → bk ≠ b) (i : Nat) (u : Value) : RS (w.setCell ⟨b, i, none⟩ u) A xs := by
  refine ⟨h.1, fun hp => ?_⟩
  obtain ⟨bk, o, e, hc⟩ := h.2 hp
  exact ⟨bk, o, e, fun j x hx => (World.cell?_of_block (Below.heap_setCell w ⟨b, i, none⟩ u bk (hd bk o e))).trans (hc j x hx)⟩
theorem tot_take (xs : List ByteArray) (j : Nat) (h : j < xs.length) : tot (xs.take (j + 1)) = tot (xs.take j) + xs[j].size := by
  rw [List.take_succ_eq_append_getElem h]
  simp only [tot, List.map_append, List.sum_append, List.map_cons, List.map_nil, List.sum_cons, List.sum_nil, Nat.add_zero]
theorem tot_take_le (xs : List ByteArray) (j : Nat) : tot (xs.take j) ≤ tot xs := by
  conv => rhs; rw [← List.take_append_drop j xs]
  simp only [tot, List.map_append, List.sum_append]
  omega
/-- The pieces behind edits. -/
def editP (ps : List ByteArray) (n : Int) : Int → List Ed → List ByteArray
  | p, [] => cutP p n 0 ps
  | p, e :: r => cutP p e.f0 0 ps ++ (if e.f2.size = 0 then [] else [e.f2]) ++ editP ps n e.f1 r
/-- A row of strings, not in block b. -/
def SK (w : World) (B b : Nat) (v : Value) (xs : List ByteArray) : Prop := Kd.R Kd.string 9 w B (fun k => k ≠ b) v xs
theorem SR.kd {w : World} {B : Nat} {v : Value} {xs : List ByteArray} (h : SR w B v xs) : Kd.R Kd.string 9 w B (fun _ => True) v xs := Kd.R_of_own h (fun _ _ => trivial)
theorem RS.of_SK {w : World} {B b : Nat} {v : Value} {xs : List ByteArray} (hk : SK w B b v xs) (hl : xs.length ≤ 140737488355328) : ∃ A c, v = .slice A xs.length c ∧ xs.length ≤ c ∧ RS w A xs ∧ ∀ bk o, A = some ⟨bk, o, none⟩ → bk ≠ b := by
  have h := Kd.own_of_R hk
  obtain ⟨A, c, hv, h2, _⟩ := Kd.R_reads hk
  by_cases hn : 0 < xs.length
  · obtain ⟨g, cap, hv', h1, _⟩ := World.ownsRow.form h hn
    have hg : v.ownBlock = some g := by
      rw [hv']; rfl
    subst hv'
    injection hv with e1 _ e2
    subst e1 e2
    refine ⟨_, _, rfl, h2, ⟨hl, fun _ => ⟨g, 0, rfl, fun j x hx => ?_⟩⟩, fun bk o e => ?_⟩
    · rw [World.ownsRow.cellAt h (0 + j) (by have := List.getElem?_eq_some_iff.1 hx; obtain ⟨q, _⟩ := this; omega)]
      simp [encs, hx]
    · injection e with e
      injection e with e
      subst e
      exact hk.1 _ hg
  · exact ⟨A, c, hv, h2, ⟨hl, fun h => absurd h hn⟩, fun bk o e => by
      subst e
      have h0 : v.ownBlock = some bk ∨ v.ownBlock = none := by rw [hv]; cases o <;> simp [Value.ownBlock]
      rcases h0 with h0 | h0
      · exact hk.1 _ h0
      · have := h.2; rcases this with ⟨e, _⟩ | ⟨g, cap, cur, e, _⟩
        · rw [e] at hv; cases hv
        · rw [e] at hv; injection hv with e1; injection e1 with e1; injection e1 with e1 e2; subst e1; exact hk.1 _ (by rw [e]; rfl)⟩
set_option maxHeartbeats 8000000 in
set_option maxRecDepth 100000 in
theorem Edit_ok (v : Value) (r : Rp) (A1 : Option Addr) (c1 : Nat) (l : List Ed) (w : World) (h : IsRp w v r) (hs : tot r.ps ≤ 20000) (hn : r.ps.length ≤ 1000000) (hf : Fit l) (hr1 : Kd.C k47 w A1 l.length l) (hc1 : l.length ≤ c1) (he : chk (tot r.ps) l = 0) (ht : tot (editP r.ps (tot r.ps) 0 l) ≤ 1000000) :
    Calls Try.prog 32 #[v, .slice A1 l.length c1] w fun e w' => ∃ u, e = .returned (.tuple #[u, .int .i64 0]) ∧ IsRp w' u (.step (editP r.ps (tot r.ps) 0 l) r) ∧ Below w.heap.size w w' := by
  have HI := Aside0.mk h
  obtain ⟨g, u, rfl, hl⟩ := h.open
  obtain ⟨A, c, h0, h1, h2, h3, hc, hr⟩ := hl.cells
  obtain ⟨K, hK⟩ := check_n (tot r.ps) l hs hf
  have hk := hK K (Nat.le_refl _)
  have hu := Try.underlying47
  obtain ⟨q1, q2, q3, q4⟩ := chk_ok he
  have HQ := Aside0.mk (And.intro q2 q3)
  have HT := Aside0.mk ht
  clear ht
  have hl100 := Aside0.mk q2
  rw [he] at hk
  clear hr hl h0 h2 hK he q1 q2 q3 q4 h
  go_enter Try.func32, Try.ntmps32
  go_wp2_with (go_at_call 49; refine (none_made g _ h3).mono ?_; rintro e wx ⟨rfl, rfl⟩)
  refine (rope_check.calls K _ _ _ l 0 _ hr1 hc1 hk).mono ?_
  rintro e w2 ⟨rfl, hb⟩
  have HB2 := Aside0.mk hb
  have HR := Aside0.mk hr1
  clear hb hr1 hk
  go_wp2_with fail
  have hbz : Below w2.heap.size w2 (w2.alloc (.cells #[.slice none 0 0, .int .i64 0, .pointer (some ⟨g, 0, none⟩), .bool true] 66)) := (Below.refl _ _).alloc (Nat.le_refl _) _
  have HB3 := Aside0.mk (Kx.below_step HB2.out hbz)
  clear hbz
  go_loopg [8, 29] l.length (fun kq v8 v29 w' => ∃ (i : Nat) (p : Int) (acc : List ByteArray) (vp : Value), v8 = .int .i64 p ∧ v29 = .int .i64 i ∧ Aside0 (i + kq = l.length) ∧ Aside0 (acc ++ editP r.ps (tot r.ps) p (l.drop i) = editP r.ps (tot r.ps) 0 l) ∧ Aside0 (acc.length ≤ i * 1000001) ∧ Aside0 (0 ≤ p ∧ p ≤ tot r.ps ∧ sp (tot r.ps) p (l.drop i) = true) ∧ Aside0 (SK w' wx.heap.size w2.heap.size vp acc) ∧ Aside0 (w'.heap[w2.heap.size]? = some (.cells #[vp, .int .i64 0, .pointer (some ⟨g, 0, none⟩), .bool true] 66 (0, 0))) ∧ Aside0 (Below wx.heap.size wx w'))
  case atStart => exact ⟨0, 0, [], .slice none 0 0, rfl, rfl, ⟨by omega⟩, ⟨by simp⟩, ⟨by simp⟩, ⟨by omega, by omega, by simpa using HQ.out.2⟩, ⟨Kd.R_nil _ _ _ _ _⟩, ⟨alloc_at _ _⟩, HB3⟩
  case round =>
    obtain ⟨i, p, acc, vp, rfl, rfl, HK, HC, HL, HP, HO, HG, HB⟩ := hrel
    have HP2 : Aside0 (r.ps.length ≤ 1000000 ∧ l.length ≤ 100) := ⟨hn, by have := hl100.out; omega⟩
    have hmax : l.length ≤ 9223372036854775807 := HR.out.2.1
    by_cases hlt : i < l.length
    · obtain ⟨ad, e, hx0, hx1, hx2⟩ := at_T47 HR.out (i : Int) (by omega) (by omega)
      have hrd : rd_T47 l (i : Int) = l[i] := by simp [rd_T47, hlt]
      rw [hrd, Int.toNat_natCast] at hx0 hx1 hx2
      cases e
      replace hx0 := (HB.out.cell (World.block_lt_of_cell? wx _ hx0)).trans hx0
      replace hx1 := (HB.out.cell (World.block_lt_of_cell? wx _ hx1)).trans hx1
      replace hx2 := (HB.out.cell (World.block_lt_of_cell? wx _ hx2)).trans hx2
      have hC := HC.out
      obtain ⟨p0, p1, p2⟩ := HP.out
      rw [List.drop_eq_getElem_cons hlt] at hC p2
      clear hrd
      generalize l[i] = x at *
      obtain ⟨s1, s2, s3, s4⟩ := sp_cons p2
      simp only [editP] at hC
      have HC2 := Aside0.mk hC
      have HS := Aside0.mk s4
      clear hC HC p2 s4
      go_wp2_with fail
      have hgx : w2.heap.size ≠ wr.heap.size := by have := blk_lt HG.out; omega
      have hba : Below wr.heap.size wr (wr.alloc (.cells #[.int .i64 x.f0, .int .i64 x.f1, .string x.f2] 47)) := (Below.refl _ _).alloc (Nat.le_refl _) _
      have HBa := Aside0.mk (Kx.below_step HB.out hba)
      have HOa : Aside0 (SK (wr.alloc (.cells #[.int .i64 x.f0, .int .i64 x.f1, .string x.f2] 47)) wx.heap.size w2.heap.size vp acc) := ⟨Kd.R_alloc HO.out _⟩
      have HGa := Aside0.mk ((hba.block _ (blk_lt HG.out)).trans HG.out)
      have HXa := Aside0.mk (alloc_at wr (.cells #[.int .i64 x.f0, .int .i64 x.f1, .string x.f2] 47))
      have HOw := HO
      clear hba HB HO HG hx0 hx1 hx2
      generalize wr.alloc (.cells #[.int .i64 x.f0, .int .i64 x.f1, .string x.f2] 47) = W0 at *
      have c0 : W0.cell? ⟨w2.heap.size, 0, none⟩ = some vp := by rw [Lib.cell_of_heap HGa.out]; rfl
      have c1x : W0.cell? ⟨wr.heap.size, 0, none⟩ = some (.int .i64 x.f0) := by rw [Lib.cell_of_heap HXa.out]; rfl
      have HI0 := Aside0.mk (IsRp.below (below_drew1 HBa.out) HI.out)
      have KS : ∀ w3, Below W0.heap.size W0.drew w3 → w3.cell? ⟨w2.heap.size, 0, none⟩ = some vp ∧ w3.cell? ⟨wr.heap.size, 0, none⟩ = some (.int .i64 x.f0) := fun w3 hb => ⟨(hb.cell (p := ⟨w2.heap.size, 0, none⟩) (blk_lt HGa.out)).trans c0, (hb.cell (p := ⟨wr.heap.size, 0, none⟩) (blk_lt HXa.out)).trans c1x⟩
      have hfr : ∀ w3, Below W0.heap.size W0.drew w3 → ∀ k, w3.heap.size ≤ k → k ≠ w2.heap.size := fun w3 hb k hk => by have := hb.size; have := blk_lt HGa.out; have : W0.drew.heap.size = W0.heap.size := rfl; omega
      have hOd : ∀ w3, Below W0.heap.size W0.drew w3 → Kd.R Kd.string 9 w3 wx.heap.size (fun k => k ≠ w2.heap.size) vp acc := fun w3 hb => Kd.R_below (w := W0.drew) HOa.out hb
      have hBd : ∀ w3, Below W0.heap.size W0.drew w3 → Below wx.heap.size wx w3 := fun w3 hb => Kx.below_step (below_drew1 HBa.out) hb
      have hbw : ∀ w3, Below W0.heap.size W0.drew w3 → wx.heap.size ≤ w3.heap.size := fun w3 hb => by have := hb.size; have := HBa.out.size; have : W0.drew.heap.size = W0.heap.size := rfl; omega
      have hlw : (acc.length + (cutP p x.f0 0 r.ps).length) * 16 ≤ 140737488355328 := by have := cutP_length p x.f0 r.ps 0; have := HL.out; have := HP2.out; omega
      have hno : vp.ownBlock ≠ some w2.heap.size := fun h => HOa.out.1 _ h rfl
      have hst4 : ∀ w3 w4, Below W0.heap.size W0.drew w3 → w3.grownBy w4 vp.ownBlock → w4.heap[w2.heap.size]? = some (.cells #[vp, .int .i64 0, .pointer (some ⟨g, 0, none⟩), .bool true] 66 (0, 0)) := fun w3 w4 hb hg => by
        have h1 := (hb.block _ (blk_lt HGa.out)).trans HGa.out
        exact (hg.block _ (blk_lt h1) (fun h => hno h.symm)).trans h1
      have hnx : vp.ownBlock ≠ some wr.heap.size := fun h => by have := Kd.R_lt HOw.out _ h; omega
      have hxt4 : ∀ w3 w4, Below W0.heap.size W0.drew w3 → w3.grownBy w4 vp.ownBlock → w4.heap[wr.heap.size]? = some (.cells #[.int .i64 x.f0, .int .i64 x.f1, .string x.f2] 47 (0, 0)) := fun w3 w4 hb hg => by
        have h1 := (hb.block _ (blk_lt HXa.out)).trans HXa.out
        exact (hg.block _ (blk_lt h1) (fun h => hnx h.symm)).trans h1
      go_region_law (first | (go_simp; go_at_call 50; refine (cut_ok _ r p x.f0 _ HI0.out (by omega) p0 (by omega) (by omega) (by omega) hn).mono ?_; rintro e w3 ⟨u3, rfl, hu3, hb3⟩; obtain ⟨A3, c3, rfl, hc3, hC3⟩ := Kd.R_reads hu3.kd; obtain ⟨hk1, hk2⟩ := KS w3 hb3) | (refine Kd.R_append_rows_step Kd.string wx.heap.size (w0 := wx) (by rfl) (.tmp 37) (.tmp 42) 63 9 (.string ⟨#[]⟩) 16 rfl Try.underlying63 infoString rfl (by decide) (by omega) vp acc (cutP p x.f0 0 r.ps) A3 _ c3 (fun k => k ≠ w2.heap.size) (fun _ => False) rfl rfl (hOd w3 hb3) hC3 (fun _ _ h => h) (fun _ hk => hk.elim) (hfr w3 hb3) (hBd w3 hb3) (hbw w3 hb3) (hlw) ?_; intro v1 w4 hr4 hb4 hg4 hat4; have hst := hst4 w3 w4 hb3 hg4; have hxt := hxt4 w3 w4 hb3 hg4; obtain ⟨A4, c4, hv4, hc4, hC4⟩ := Kd.R_reads hr4; obtain ⟨n4, hn4⟩ : ∃ n, Aside0 (n = (acc ++ cutP p x.f0 0 r.ps).length) := ⟨_, ⟨rfl⟩⟩; rw [← hn4.out] at hv4; subst hv4; have hct : w4.cell? ⟨w2.heap.size, 0, none⟩ = some vp := by { rw [Lib.cell_of_heap hst]; rfl }; have hft := Lib.frozen_of_heap hst 0))
      all_goals
        have HG5 := Aside0.mk (Lib.heap_setCell_same (i := 0) hst (.slice A4 n4 c4))
        have HX5 := Aside0.mk ((Below.heap_setCell w4 ⟨w2.heap.size, 0, none⟩ (.slice A4 n4 c4) wr.heap.size (fun h => hgx h.symm)).trans hxt)
        have HN5 : Aside0 ((Value.slice A4 n4 c4).ownBlock ≠ some wr.heap.size) := ⟨by
          rcases hat4 with h | ⟨b, h, hle⟩
          · rw [h]; exact hnx
          · rw [h]
            intro e
            injection e with e
            have := blk_lt ((hb3.block _ (blk_lt HXa.out)).trans HXa.out)
            omega⟩
        have HO5 := Aside0.mk (Kd.R_far (p := ⟨w2.heap.size, 0, none⟩) hr4 (fun k hk => hk) (.slice A4 n4 c4))
        have HB5 := Aside0.mk (hb4.setCell (p := ⟨w2.heap.size, 0, none⟩) (HB2.out.size) (.slice A4 n4 c4))
        have HL5 : Aside0 ((acc ++ cutP p x.f0 0 r.ps).length ≤ acc.length + 1000000) := ⟨by have := cutP_length p x.f0 r.ps 0; have := HP2.out; simp; omega⟩
        rw [← List.append_assoc, ← List.append_assoc] at HC2
        clear hst hxt hct hft hr4 hb4 hg4 hat4 hC4 hc4 hn4 hk1 hk2 hb3 hu3 hC3 hc3 hst4 hxt4 hfr hbw hOd hBd hlw hno hnx KS HI0 c0 c1x HOa HBa HGa HXa HOw
        clear HP
        generalize w4.setCell ⟨w2.heap.size, 0, none⟩ (.slice A4 n4 c4) = w5 at *
        generalize hv5 : Value.slice A4 n4 c4 = v5 at *
        generalize acc ++ cutP p x.f0 0 r.ps = acc5 at *
        have d0 : w5.cell? ⟨w2.heap.size, 0, none⟩ = some v5 := by rw [Lib.cell_of_heap HG5.out]; rfl
        have d1 : w5.cell? ⟨wr.heap.size, 1, none⟩ = some (.int .i64 x.f1) := by rw [Lib.cell_of_heap HX5.out]; rfl
        have d2 : w5.cell? ⟨wr.heap.size, 2, none⟩ = some (.string x.f2) := by rw [Lib.cell_of_heap HX5.out]; rfl
        cases gk with
        | zero => exact absurd hlt (by have := HK.out; omega)
        | succ kq' =>
        by_cases hz : x.f2.size = 0
        · have h0 := Ut.empty_of hz
          rw [if_pos hz] at HC2
          have HZ := Aside0.mk hz
          clear hz
          go_wp2_with fail
          go_roundg kq'
          case measure => omega
          case rel => exact ⟨i + 1, x.f1, acc5, v5, rfl, by go_num, ⟨by have := HK.out; omega⟩, ⟨by simpa using HC2.out⟩, ⟨by have := HL5.out; have := HL.out; omega⟩, ⟨by omega, by omega, HS.out⟩, HO5, HG5, HB5⟩
        · have h0 := Ut.nonempty_of hz
          rw [if_neg hz] at HC2
          have HZ := Aside0.mk hz
          clear hz
          have hg5 := blk_lt HG5.out
          have hno5 : v5.ownBlock ≠ some w2.heap.size := fun h => HO5.out.1 _ h rfl
          have hnx5 := HN5.out
          go_wp2_with fail
          go_region_law (refine Kd.R_append_step Kd.string wx.heap.size (w0 := wx) (W := w5.drew) (by rfl) (.tmp 53) (.tmp 56) 63 9 (.string ⟨#[]⟩) 16 rfl Try.underlying63 infoString rfl (by decide) (by omega) v5 acc5 x.f2 [.string x.f2] (fun k => k ≠ w2.heap.size) (fun _ => False) rfl rfl rfl (fun _ hk => hk.elim) (fun k (hk : w5.heap.size ≤ k) => by omega) (Kd.R_drew HO5.out) (below_drew1 HB5.out) HB5.out.size (by have := HL5.out; have := HL.out; have := HP2.out; omega) ?_; intro v6 w6 hr6 hb6 hg6 hat6; have hst := (hg6.block w2.heap.size hg5 (fun h => hno5 h.symm)).trans HG5.out; obtain ⟨A6, c6, hv6, hc6, hC6⟩ := Kd.R_reads hr6; obtain ⟨n6, hn6⟩ : ∃ n, Aside0 (n = (acc5 ++ [x.f2]).length) := ⟨_, ⟨rfl⟩⟩; rw [← hn6.out] at hv6; subst hv6; have hct : w6.cell? ⟨w2.heap.size, 0, none⟩ = some v5 := by { rw [Lib.cell_of_heap hst]; rfl }; have hft := Lib.frozen_of_heap hst 0; have hxt := (hg6.block wr.heap.size (blk_lt HX5.out) (fun h => hnx5 h.symm)).trans HX5.out)
          all_goals
            have HG6 := Aside0.mk (Lib.heap_setCell_same (i := 0) hst (.slice A6 n6 c6))
            have HX6 := Aside0.mk ((Below.heap_setCell w6 ⟨w2.heap.size, 0, none⟩ (.slice A6 n6 c6) wr.heap.size (fun h => hgx h.symm)).trans hxt)
            have HO6 := Aside0.mk (Kd.R_far (p := ⟨w2.heap.size, 0, none⟩) hr6 (fun k hk => hk) (.slice A6 n6 c6))
            have HB6 := Aside0.mk (hb6.setCell (p := ⟨w2.heap.size, 0, none⟩) (HB2.out.size) (.slice A6 n6 c6))
            clear hst hxt hct hft hr6 hb6 hg6 hat6 hC6 hc6 hn6 hno5 hnx5 HN5 HX5 HG5 HO5 HB5 hg5 d0 d1 d2
            generalize w6.setCell ⟨w2.heap.size, 0, none⟩ (.slice A6 n6 c6) = w7 at *
            generalize hv7 : Value.slice A6 n6 c6 = v7 at *
            have d1 : w7.cell? ⟨wr.heap.size, 1, none⟩ = some (.int .i64 x.f1) := by rw [Lib.cell_of_heap HX6.out]; rfl
            go_wp2_with fail
            go_roundg kq'
            case measure => omega
            case rel => exact ⟨i + 1, x.f1, acc5 ++ [x.f2], v7, rfl, by go_num, ⟨by have := HK.out; omega⟩, HC2, ⟨by have := HL5.out; have := HL.out; simp; omega⟩, ⟨by omega, by omega, HS.out⟩, HO6, HG6, HB6⟩
    · have hil : i = l.length := by have := HK.out; omega
      have hC := HC.out
      rw [List.drop_of_length_le (by omega)] at hC
      simp only [editP] at hC
      obtain ⟨p0, p1, p2⟩ := HP.out
      have HC2 := Aside0.mk hC
      clear hC HC p2 HP
      have hgB : g < wx.heap.size := World.block_lt_of_cell? wx ⟨g, 1, none⟩ h1
      have hg1 : wr.cell? ⟨g, 1, none⟩ = some (.int .i64 (tot r.ps : Nat)) := (HB.out.cell (p := ⟨g, 1, none⟩) hgB).trans h1
      have c0 : wr.cell? ⟨w2.heap.size, 0, none⟩ = some vp := by rw [Lib.cell_of_heap HG.out]; rfl
      have HI0 := Aside0.mk (IsRp.below (below_drew1 HB.out) HI.out)
      clear h1
      have hlt2 := blk_lt HG.out
      have hno : vp.ownBlock ≠ some w2.heap.size := fun h => HO.out.1 _ h rfl
      have KS : ∀ w3, Below wr.heap.size wr.drew w3 → w3.cell? ⟨w2.heap.size, 0, none⟩ = some vp ∧ w3.cell? ⟨g, 1, none⟩ = some (.int .i64 (tot r.ps : Nat)) := fun w3 hb => ⟨(hb.cell (p := ⟨w2.heap.size, 0, none⟩) hlt2).trans c0, (hb.cell (p := ⟨g, 1, none⟩) (by have := HB.out.size; show g < wr.heap.size; omega)).trans hg1⟩
      have hfr : ∀ w3, Below wr.heap.size wr.drew w3 → ∀ k, w3.heap.size ≤ k → k ≠ w2.heap.size := fun w3 hb k hk => by have := hb.size; have : wr.drew.heap.size = wr.heap.size := rfl; omega
      have hbw : ∀ w3, Below wr.heap.size wr.drew w3 → wx.heap.size ≤ w3.heap.size := fun w3 hb => by have := hb.size; have := HB.out.size; have : wr.drew.heap.size = wr.heap.size := rfl; omega
      have hlw : (acc.length + (cutP p (tot r.ps : Nat) 0 r.ps).length) * 16 ≤ 140737488355328 := by have := cutP_length p (tot r.ps : Nat) r.ps 0; have := HL.out; have := HP2.out; omega
      have hOd : ∀ w3, Below wr.heap.size wr.drew w3 → Kd.R Kd.string 9 w3 wx.heap.size (fun k => k ≠ w2.heap.size) vp acc := fun w3 hb => Kd.R_below (w := wr.drew) HO.out hb
      have hBd : ∀ w3, Below wr.heap.size wr.drew w3 → Below wx.heap.size wx w3 := fun w3 hb => Kx.below_step (below_drew1 HB.out) hb
      have hst4 : ∀ w3 w4, Below wr.heap.size wr.drew w3 → w3.grownBy w4 vp.ownBlock → w4.heap[w2.heap.size]? = some (.cells #[vp, .int .i64 0, .pointer (some ⟨g, 0, none⟩), .bool true] 66 (0, 0)) := fun w3 w4 hb hg => by
        have h1 := (hb.block _ (blk_lt HG.out)).trans HG.out
        exact (hg.block _ (blk_lt h1) (fun h => hno h.symm)).trans h1
      go_wp2_with fail
      go_region_law (first | (refine Kd.R_append_rows_step Kd.string wx.heap.size (w0 := wx) (by rfl) (.tmp 67) (.tmp 74) 63 9 (.string ⟨#[]⟩) 16 rfl Try.underlying63 infoString rfl (by decide) (by omega) vp acc (cutP p (tot r.ps : Nat) 0 r.ps) A3 _ c3 (fun k => k ≠ w2.heap.size) (fun _ => False) rfl rfl (hOd w3 hb3) hC3 (fun _ _ h => h) (fun _ hk => hk.elim) (hfr w3 hb3) (hBd w3 hb3) (hbw w3 hb3) hlw ?_; intro v1 w4 hr4 hb4 hg4 hat4; have hst := hst4 w3 w4 hb3 hg4; obtain ⟨A4, c4, hv4, hc4, hC4, hD4⟩ := RS.of_SK hr4 (by simp; omega); obtain ⟨n4, hn4⟩ : ∃ n, Aside0 (n = (acc ++ cutP p (tot r.ps : Nat) 0 r.ps).length) := ⟨_, ⟨rfl⟩⟩; rw [← hn4.out] at hv4; subst hv4; have hct : w4.cell? ⟨w2.heap.size, 0, none⟩ = some vp := by { rw [Lib.cell_of_heap hst]; rfl }; have hft := Lib.frozen_of_heap hst 0) | (go_simp; go_at_call 50; refine (cut_ok _ r p (tot r.ps : Nat) _ HI0.out (by omega) p0 (by omega) (by omega) (by omega) hn).mono ?_; rintro e w3 ⟨u3, rfl, hu3, hb3⟩; obtain ⟨A3, c3, rfl, hc3, hC3⟩ := Kd.R_reads hu3.kd; obtain ⟨hk1, hk2⟩ := KS w3 hb3))
      all_goals
        rw [HC2.out] at hn4 hc4 hC4
        have HG5 := Aside0.mk (Lib.heap_setCell_same (i := 0) hst (.slice A4 n4 c4))
        have HB5 := Aside0.mk (hb4.setCell (p := ⟨w2.heap.size, 0, none⟩) (HB2.out.size) (.slice A4 n4 c4))
        have HR5 := Aside0.mk (hC4.far hD4 0 (.slice A4 n4 c4))
        have HD5 := Aside0.mk hD4
        have HC5 := Aside0.mk hc4
        have hn4m : n4 ≤ 9223372036854775807 := by have := hC4.1; have := hn4.out; omega
        clear hst hct hft hr4 hb4 hg4 hat4 hC4 hc4 hD4 hk1 hk2 hb3 hu3 hC3 hc3 hst4 hfr hbw hOd hBd hlw hno KS HI0 c0 hg1 HC2 HO HG HB
        generalize w4.setCell ⟨w2.heap.size, 0, none⟩ (.slice A4 n4 c4) = w5 at *
        obtain ⟨full, hfull⟩ : ∃ full, Aside0 (full = editP r.ps (tot r.ps) 0 l) := ⟨_, ⟨rfl⟩⟩
        rw [← hfull.out] at hn4 HC5 HR5 HT
        have d0 : w5.cell? ⟨w2.heap.size, 0, none⟩ = some (.slice A4 n4 c4) := by rw [Lib.cell_of_heap HG5.out]; rfl
        go_wp2_with fail
        clear d0
        go_loopg [83] n4 (fun kq v83 w' => ∃ (j : Nat), v83 = .int .i64 j ∧ Aside0 (j + kq = n4) ∧ Aside0 (w'.heap[w2.heap.size]? = some (.cells #[.slice A4 n4 c4, .int .i64 (tot (full.take j) : Nat), .pointer (some ⟨g, 0, none⟩), .bool true] 66 (0, 0))) ∧ Aside0 (RS w' A4 full) ∧ Aside0 (Below wx.heap.size wx w'))
        case atStart => exact ⟨0, rfl, ⟨by omega⟩, by simpa [tot] using HG5, HR5, HB5⟩
        case round =>
          clear HG5 HB5 HR5
          obtain ⟨j, rfl, HK, HG, HR, HB⟩ := hrel
          by_cases hjn : j < n4
          · have hjf : j < full.length := by have := hn4.out; omega
            obtain ⟨bk, o, rfl, hx⟩ := HR.out.2 (by omega)
            have hx1 := hx j _ (List.getElem?_eq_getElem hjf)
            have HT2 := Aside0.mk (tot_take full j hjf)
            have HT3 := Aside0.mk (tot_take_le full (j + 1))
            clear hx
            generalize full[j] = s at *
            obtain ⟨m, hm⟩ : ∃ m, Aside0 (m = tot (full.take j)) := ⟨_, ⟨rfl⟩⟩
            have d1 : wr.cell? ⟨w2.heap.size, 1, none⟩ = some (.int .i64 (m : Nat)) := by rw [Lib.cell_of_heap HG.out, hm.out]; rfl
            have d2 := Lib.frozen_of_heap HG.out 1
            have HS := Aside0.mk (show m + s.size ≤ 1000000 by have := HT.out; have := HT2.out; have := HT3.out; have := hm.out; omega)
            cases gk with
            | zero => exact absurd hjn (by have := HK.out; omega)
            | succ kq' =>
            go_wp2_with fail
            go_roundg kq'
            case measure => omega
            case rel =>
              have e1 : m + s.size = tot (full.take (j + 1)) := by rw [HT2.out, hm.out]
              refine ⟨j + 1, by go_num, ⟨by have := HK.out; omega⟩, ⟨(Lib.heap_setCell_same (i := 1) HG.out _).trans ?_⟩, ⟨HR.out.far HD5.out 1 _⟩, ⟨HB.out.setCell (p := ⟨w2.heap.size, 1, none⟩) (HB2.out.size) _⟩⟩
              rw [w64 (by omega) (by have := HS.out; omega), ← e1, ← hm.out]
              rfl
          · have hjl : j = n4 := by have := HK.out; omega
            have hG := HG.out
            rw [List.take_of_length_le (by have := hn4.out; omega)] at hG
            have HG' := Aside0.mk hG
            clear hG HG
            go_wp2_with fail
            go_ret2
            rw [← hfull.out]
            refine ⟨_, rfl, ⟨w2.heap.size, _, rfl, ⟨A4, c4, ?_, ?_, HR.out⟩, IsRp.below HB.out HI.out⟩, HB.out⟩
            · rw [HG'.out, hn4.out]
            · have := HC5.out; exact this
end Go.Proofs.Ytfllpoonfhiipaa.Rope
