/- The spans of Lines are the string, and layer 1's Line is the same: the law's walk. -/
import Derived.Test.YtbioehoeoalalaaDoorPlaceSp9
import Derived.Test.YtbioehoeoalalaaDoorOp
import Derived.Outline
set_option linter.unusedVariables false
set_option linter.unusedSimpArgs false
namespace Go.Proofs.YtbioehoeoalalaaDoor.Pure
open Go.RowKit Go.Proofs.YtbioehoeoalalaaDoor Go.Proofs.YtbioehoeoalalaaDoor.P Go.Proofs.YtbioehoeoalalaaDoorW.PrintWords Go.Proofs.YtbioehoeoalalaaDoorW.PrintLast Go.Proofs.YtbioehoeoalalaaDoorW.PrintMore
theorem bstep {w w1 w2 : World} (h : Below w.heap.size w w1) (h2 : Below w1.heap.size w1 w2) : Below w.heap.size w w2 := h.trans (h2.mono h.size)
set_option maxHeartbeats 8000000 in
set_option maxRecDepth 100000 in
theorem PlaceLines (W : World) (a0 : ByteArray) (hT : TB W) (ok0 : OpG.okS a0) :
    Calls Tryd.prog 8 #[.string a0] W fun e w' => e = .returned (.bool true) ∧ Below W.heap.size W w' := by
  have hz := short_size a0
  have hSh := Short_eq a0
  obtain ⟨KA, hKA⟩ := alive_ev
  have hA := Aside0.mk (hKA KA (Nat.le_refl _))
  have HT := Aside0.mk hT
  clear ok0 hT hKA
  go_enter Tryd.func8, Tryd.ntmps8
  go_wp2_with fail
  refine (marginaliaref01_Short.calls a0 _ _ hSh).mono ?_
  rintro e w1 ⟨rfl, hb1⟩
  have HB1 := Aside0.mk hb1
  generalize short a0 = s at *
  clear hb1 hSh
  by_cases hs : s.size ≤ 20000
  · obtain ⟨K1, hK1⟩ := Lines_ev s hs
    have hL := hK1 K1 (Nat.le_refl _)
    have hfe := Aside0.mk (feeds_one s)
    have hto := Aside0.mk (tot_one' s)
    have htx := Aside0.mk (txt_one s)
    obtain ⟨hl0, hch0⟩ := lns_chain s
    have hch := Aside0.mk hch0
    have hli := Aside0.mk (line_lns s)
    have hll : (lns s).length ≤ 20002 := by
      have := sl_length s.data.toList 0 0
      rw [Ut.size_data] at this
      unfold lns
      omega
    generalize lns s = ls at *
    clear hK1 hch0
    have HL := Aside0.mk hL
    clear hL
    go_wp2_with fail
    refine (place_Lines.calls K1 s ls 0 _ HL.out (HT.out.below HB1.out)).mono ?_
    rintro e w2 ⟨v2, rfl, ho2, hb2⟩
    have HB2 := Aside0.mk (bstep HB1.out hb2)
    obtain ⟨A2, c2, rfl⟩ := Kd.R_slice ho2
    have hC2 := (Kd.R_reads' ho2).2.2
    have HC2 := Aside0.mk hC2
    clear hb2 HB1 ho2 hC2
    go_wp2_with fail
    refine (Rope.New_ok s _ hs).mono ?_
    rintro e w3 ⟨v3, rfl, hI3, hb3⟩
    have HB3 := Aside0.mk (bstep HB2.out hb3)
    have HC3 := Aside0.mk (Kd.C_below HC2.out hb3)
    obtain ⟨g3, u3, hv3, _⟩ := hI3.open
    subst hv3
    have HI3 := Aside0.mk hI3
    clear hb3 HB2 HC2 hI3
    have hd1 : decide ((20000 : Int) < (s.size : Int)) = false := decide_eq_false (by omega)
    go_wp2_with fail
    refine (Rope.Lines_ok _ _ _ HI3.out (by show Rope.tot (Rope.one s) ≤ _; rw [hto.out]; omega)).mono ?_
    rintro e w4 ⟨rfl, rfl⟩
    rw [show 1 + Rope.feeds (Rope.Rp.base (Rope.one s)).ps = ls.length from hfe.out]
    go_wp2_with fail
    go_loopg [8, 9] ls.length (fun kq v8 v9 w' => ∃ (i b : Nat), v8 = .int .i64 (b : Int) ∧ v9 = .int .i64 (i : Int) ∧ Aside0 (i + kq = ls.length) ∧ Aside0 ((i < ls.length → ∃ e : Nat, ls[i]? = some ⟨(b : Int), (e : Int)⟩) ∧ (i = ls.length → b = s.size + 1)) ∧ Aside0 (Below W.heap.size W w') ∧ Aside0 (Kd.C k39 w' A2 ls.length ls) ∧ Aside0 (Rope.IsRp w' (.pointer (some ⟨g3, 0, none⟩)) (.base (Rope.one s))))
    case atStart =>
      refine ⟨0, 0, rfl, rfl, ⟨by omega⟩, ⟨fun _ => ?_, fun h => by omega⟩, HB3, HC3, HI3⟩
      obtain ⟨a, e, q1, q2, q3, q4, _⟩ := hch.out 0 hl0
      have := q4 rfl
      subst this
      exact ⟨e, q1⟩
    case round =>
      clear HB3 HC3 HI3
      obtain ⟨i, b, rfl, rfl, HK, HP, HB, HC, HI⟩ := hrel
      by_cases hlt : i < ls.length
      · obtain ⟨a, e, q1, q2, q3, q4, q5, q6⟩ := hch.out i hlt
        obtain ⟨e', p1⟩ := HP.out.1 hlt
        rw [q1] at p1
        injection p1 with p1
        injection p1 with p1 p2
        obtain rfl : a = b := by omega
        clear p1 p2 HP
        have Q5 := Aside0.mk q5
        have Q6 := Aside0.mk q6
        have HX := Aside0.mk (hli.out i _ q1)
        have Q1 := Aside0.mk q1
        clear q1 q4 q5 q6
        cases gk with
        | zero => exact absurd hlt (by have := HK.out; omega)
        | succ kq' =>
        have hd2 : decide ((i : Int) < (ls.length : Int)) = true := decide_eq_true (by omega)
        go_wp2_with fail
        refine (Rope.Line_ok _ _ (i : Int) _ HI.out (by show Rope.tot (Rope.one s) ≤ _; rw [hto.out]; omega)).mono ?_
        rintro e9 w5 ⟨rfl, hb5⟩
        rw [show Rope.txt (Rope.Rp.base (Rope.one s)).ps = s.data.toList from htx.out, HX.out]
        have HB5 := Aside0.mk (bstep HB.out hb5)
        have hC5 := Kd.C_below HC.out hb5
        have HI5 := Aside0.mk (HI.out.below hb5)
        have hrd : rd_T39 ls (i : Int) = ⟨(a : Int), (e : Int)⟩ := by
          unfold rd_T39
          have e2 : ((i : Int)).toNat = i := rfl
          rw [e2, List.getD_eq_getElem?_getD, Q1.out]
          rfl
        obtain ⟨ad, e2, hx0, hx1⟩ := at_T39 hC5 (i : Int) (by omega) (by omega)
        cases e2
        rw [hrd] at hx0 hx1
        simp only [Int.toNat_natCast] at hx0 hx1
        have hB6 : Below w5.heap.size w5 (w5.alloc (.cells #[.int .i64 (a : Int), .int .i64 (e : Int)] 39)) := below_alloc (Below.refl _ _) _
        have hy0 := (hB6.cell (World.block_lt_of_cell? w5 _ hx0)).trans hx0
        have hy1 := (hB6.cell (World.block_lt_of_cell? w5 _ hx1)).trans hx1
        have HC5 := Aside0.mk hC5
        clear hC5 hb5 hB6 hrd HB HC HI HX
        have q0 : (0 ≤ (i : Int)) = True := eq_true (by omega)
        have q1 : ((i : Int) < (ls.length : Int)) = True := eq_true (by omega)
        have hd3 : decide ((e : Int) < (a : Int)) = false := decide_eq_false (by omega)
        have hd4 : decide ((s.size : Int) < (e : Int)) = false := decide_eq_false (by omega)
        by_cases hn1 : i + 1 < ls.length
        · obtain ⟨he, hB, e', q'⟩ := Q5.out hn1
          have Q' := Aside0.mk q'
          have hd5 : decide ((i : Int) + 1 < (ls.length : Int)) = true := decide_eq_true (by omega)
          have hne : ((((s[e]'he).toNat : Nat) : Int) != 10) = false := by
            have h1 := bt_B s e he
            rw [← bt_at s (e : Int) he] at h1
            have h2 : (((s[((e : Int)).toNat]'he).toNat : Nat) : Int) = (((s[e]'he).toNat : Nat) : Int) := rfl
            rw [h2, hB] at h1
            rw [h1]
            rfl
          have q2 : (0 ≤ (e : Int)) = True := eq_true (by omega)
          have q3 : ((e : Int) < (s.size : Int)) = True := eq_true (by omega)
          clear q' hB
          go_wp2_with fail
          go_quiet (fail)
          go_wp2_with fail
          go_roundg kq'
          case measure => omega
          case rel => exact ⟨i + 1, e + 1, by go_num, by go_num, ⟨by have := HK.out; omega⟩, ⟨fun _ => ⟨e', Q'.out⟩, fun h => by omega⟩, ⟨by repeat (first | exact HB5.out | apply below_alloc | apply pw_below_drewN | apply below_drew1 | refine below_set ?_ (by have := HB5.out.size; omega))⟩, ⟨(Kd.C_below HC5.out (by repeat (first | exact Below.refl _ _ | apply below_alloc | apply pw_below_drewN | apply below_drew1)))⟩, ⟨(HI5.out.below (by repeat (first | exact Below.refl _ _ | apply below_alloc | apply pw_below_drewN | apply below_drew1)))⟩⟩
        · have he := Q6.out (by omega)
          have hd5 : decide ((i : Int) + 1 < (ls.length : Int)) = false := decide_eq_false (by omega)
          have HE := Aside0.mk he
          clear he
          go_wp2_with fail
          go_quiet (fail)
          go_wp2_with fail
          go_roundg kq'
          case measure => omega
          case rel => exact ⟨i + 1, e + 1, by go_num, by go_num, ⟨by have := HK.out; omega⟩, ⟨fun h => by omega, fun h => by rw [HE.out]⟩, ⟨by repeat (first | exact HB5.out | apply below_alloc | apply pw_below_drewN | apply below_drew1 | refine below_set ?_ (by have := HB5.out.size; omega))⟩, ⟨(Kd.C_below HC5.out (by repeat (first | exact Below.refl _ _ | apply below_alloc | apply pw_below_drewN | apply below_drew1)))⟩, ⟨(HI5.out.below (by repeat (first | exact Below.refl _ _ | apply below_alloc | apply pw_below_drewN | apply below_drew1)))⟩⟩
      · have hb : b = s.size + 1 := HP.out.2 (by have := HK.out; omega)
        subst hb
        have hd2 : decide ((i : Int) < (ls.length : Int)) = false := decide_eq_false (by omega)
        go_wp2_with (go_at_call 14; refine (marginalialaw02_alive.calls KA true _ hA.out (HT.out.below HB.out)).mono ?_; rintro e9 w9 ⟨rfl, hb9⟩)
        go_ret
        exact ⟨rfl, bstep HB.out hb9⟩
  · obtain ⟨K1, hK1⟩ := Lines_long s (by omega)
    have HL := Aside0.mk (hK1 K1 (Nat.le_refl _))
    clear hK1
    have hd1 : decide ((20000 : Int) < (s.size : Int)) = true := decide_eq_true (by omega)
    go_wp2_with fail
    refine (place_Lines.calls K1 s [] 3 _ HL.out (HT.out.below HB1.out)).mono ?_
    rintro e w2 ⟨v2, rfl, ho2, hb2⟩
    have HB2 := Aside0.mk (bstep HB1.out hb2)
    obtain ⟨A2, c2, rfl⟩ := Kd.R_slice ho2
    clear hb2 HB1 ho2
    go_wp2_with fail
    refine (Rope.New_long s _ (by omega)).mono ?_
    rintro e w3 ⟨rfl, rfl⟩
    go_wp2_with (go_at_call 14; refine (marginalialaw02_alive.calls KA true _ hA.out (HT.out.below HB2.out)).mono ?_; rintro e9 w9 ⟨rfl, hb9⟩)
    go_ret
    exact ⟨rfl, bstep HB2.out hb9⟩
end Go.Proofs.YtbioehoeoalalaaDoor.Pure
