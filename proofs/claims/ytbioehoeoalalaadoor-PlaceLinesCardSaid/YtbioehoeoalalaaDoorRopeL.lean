/- Line of a rope that was made. -/
import Derived.Test.YtbioehoeoalalaaDoorRope
set_option linter.unusedVariables false
set_option linter.unusedSimpArgs false
namespace Go.Proofs.YtbioehoeoalalaaDoor.Rope
open Go.RowKit Go.Proofs.YtbioehoeoalalaaDoor Go.Proofs.YtbioehoeoalalaaDoorW.PrintWords Go.Proofs.YtbioehoeoalalaaDoorW.PrintLast Go.Proofs.YtbioehoeoalalaaDoorW.PrintMore
/-- The walk over bytes: at p, so many line feeds before it, the line's begin; the line that was looked for, if it has ended. -/
def scan (n : Int) : List UInt8 → Nat → Nat → Nat → Option (Nat × Nat) × Nat × Nat
  | [], p, l, f => (none, l, f)
  | c :: r, p, l, f => if c = 10 then (if (l : Int) = n then (some (f, p), l, f) else scan n r (p + 1) (l + 1) (p + 1)) else scan n r (p + 1) l f
def lineR (n : Int) (z : Nat) : Option (Nat × Nat) × Nat × Nat → Int × Int × Int
  | (some (a, b), _, _) => ((a : Int), (b : Int), 0)
  | (none, l, f) => if (l : Int) = n then ((f : Int), (z : Int), 0) else (0, 0, 2)
def lineA (n : Int) (t : List UInt8) : Int × Int × Int := lineR n t.length (scan n t 0 0 0)
theorem txt_cons (s : ByteArray) (r : List ByteArray) : txt (s :: r) = s.data.toList ++ txt r := by simp [txt]
theorem tot_cons' (s : ByteArray) (r : List ByteArray) : tot (s :: r) = s.size + tot r := by simp [tot]
set_option maxHeartbeats 4000000 in
set_option maxRecDepth 100000 in
theorem Line_ok (v : Value) (r : Rp) (n : Int) (w : World) (h : IsRp w v r) (hs : tot r.ps ≤ 1000000) :
    Calls Tryd.prog 26 #[v, .int .i64 n] w fun e w' => e = .returned (.tuple #[.agg #[.int .i64 (lineA n (txt r.ps)).1, .int .i64 (lineA n (txt r.ps)).2.1], .int .i64 (lineA n (txt r.ps)).2.2]) ∧ Below w.heap.size w w' := by
  obtain ⟨g, u, rfl, hl⟩ := h.open
  obtain ⟨A, c, h0, h1, h2, h3, hc, hr⟩ := hl.cells
  have hgl : g < w.heap.size := World.block_lt_of_cell? w _ h0
  have hB0 : Below w.heap.size w (w.alloc (.cells #[.int .i64 0, .int .i64 0] 39)) := (Below.refl _ _).alloc (Nat.le_refl _) _
  have g3 := (hB0.cell hgl).trans h3
  have g0 := (hB0.cell hgl).trans h0
  have g1 := (hB0.cell hgl).trans h1
  have HT := Aside0.mk (txt_length r.ps)
  have HR := Aside0.mk (hr.below hB0)
  have HB := Aside0.mk hB0
  have hm := hr.1
  clear hr h hl h0 h1 h2 h3 hB0
  unfold lineA
  go_enter Tryd.func26, Tryd.ntmps26
  go_wp2_with (go_at_call 37; refine (none_made g _ g3).mono ?_; rintro e w1 ⟨rfl, rfl⟩)
  go_loopg [6, 7, 8, 20] r.ps.length (fun kq v6 v7 v8 v20 w' => ∃ (i p l f : Nat), v6 = .int .i64 (p : Int) ∧ v7 = .int .i64 (l : Int) ∧ v8 = .int .i64 (f : Int) ∧ v20 = .int .i64 (i : Int) ∧ w' = w.alloc (.cells #[.int .i64 0, .int .i64 0] 39) ∧ Aside0 (i + kq = r.ps.length) ∧ Aside0 (scan n (txt (r.ps.drop i)) p l f = scan n (txt r.ps) 0 0 0) ∧ Aside0 (p + tot (r.ps.drop i) = tot r.ps ∧ l ≤ p ∧ f ≤ p))
  case atStart => exact ⟨0, 0, 0, 0, rfl, rfl, rfl, rfl, rfl, ⟨by omega⟩, ⟨by simp⟩, ⟨by simp⟩⟩
  case round =>
    obtain ⟨i, p, l, f, rfl, rfl, rfl, rfl, rfl, HK, HC, HP⟩ := hrel
    by_cases hlt : i < r.ps.length
    · obtain ⟨bk, o, rfl, hx⟩ := HR.out.2 (by omega)
      have hx1 := hx i _ (List.getElem?_eq_getElem hlt)
      have hC := HC.out
      have hP := HP.out
      rw [List.drop_eq_getElem_cons hlt] at hC hP
      rw [tot_cons'] at hP
      rw [txt_cons] at hC
      clear hx
      generalize r.ps[i] = s at *
      obtain ⟨p0, p1, p2⟩ := hP
      have HP0 := Aside0.mk p0
      have HC1 := Aside0.mk hC
      have hsz : s.size ≤ 1000000 := by omega
      have hpz : p + s.size ≤ 1000000 := by omega
      clear hC HC HP p0
      cases gk with
      | zero => exact absurd hlt (by have := HK.out; omega)
      | succ kq' =>
      go_wp2_with fail
      go_loopg [7, 8, 26] s.size (fun kq v7 v8 v26 w' => ∃ (k l' f' : Nat), v7 = .int .i64 (l' : Int) ∧ v8 = .int .i64 (f' : Int) ∧ v26 = .int .i64 (k : Int) ∧ w' = w.alloc (.cells #[.int .i64 0, .int .i64 0] 39) ∧ Aside0 (k + kq = s.size) ∧ Aside0 (scan n (s.data.toList.drop k ++ txt (r.ps.drop (i + 1))) (p + k) l' f' = scan n (txt r.ps) 0 0 0) ∧ Aside0 (l' ≤ p + k ∧ f' ≤ p + k))
      case atStart => exact ⟨0, l, f, rfl, rfl, rfl, rfl, ⟨by omega⟩, ⟨by simpa using HC1.out⟩, ⟨by omega⟩⟩
      case round =>
        obtain ⟨k, l', f', rfl, rfl, rfl, rfl, HK2, HC2, HP2⟩ := hrel
        have hz := Ut.size_data s
        by_cases hk : k < s.size
        · have hlt2 : k < s.data.toList.length := by omega
          have hC := HC2.out
          rw [List.drop_eq_getElem_cons hlt2] at hC
          have hsb : s[k]'hk = s.data.toList[k] := rfl
          generalize s.data.toList[k] = b at *
          simp only [List.cons_append, scan] at hC
          have hd1 : decide ((k : Int) < (s.size : Int)) = true := decide_eq_true (by omega)
          have q0 : (0 ≤ (k : Int)) = True := eq_true (by omega)
          have q1 : ((k : Int) < (s.size : Int)) = True := eq_true (by omega)
          obtain ⟨l0, f0⟩ := HP2.out
          cases gk with
          | zero => exact absurd hk (by have := HK2.out; omega)
          | succ kq2 =>
          by_cases hb : b = 10
          · have hne : ((((s[k]'hk).toNat : Nat) : Int) != 10) = false := by rw [hsb, hb]; rfl
            rw [if_pos hb] at hC
            by_cases hn : (l' : Int) = n
            · rw [if_pos hn] at hC
              have HC3 := Aside0.mk hC
              have hn2 : ((l' : Int) == n) = true := beq_iff_eq.mpr hn
              clear hC HC2 hsb hb hn hz
              go_wp2_with fail
              refine bodyPost_ret (results_ct rfl _ _ w.heap.size 39 #[.int .i64 (f' : Int), .int .i64 ((p : Int) + (k : Int))] (0, 0) _ rfl (by exact blk_new _ _) Tryd.underlying39 rfl (by kernel_rfl)) rfl ?_
              exact ⟨by rw [← HC3.out]; simp [lineR], by repeat (first | exact Below.refl _ _ | apply below_alloc | apply pw_below_drewN | apply below_drew1 | refine below_set ?_ (Nat.le_refl _))⟩
            · rw [if_neg hn] at hC
              have HC3 := Aside0.mk hC
              have hn2 : ((l' : Int) == n) = false := beq_eq_false_iff_ne.mpr hn
              clear hC HC2 hsb hb hn hz
              go_wp2_with fail
              go_roundg kq2
              case measure => omega
              case rel => exact ⟨k + 1, l' + 1, p + k + 1, by go_num, by go_num, by go_num, rfl, ⟨by have := HK2.out; omega⟩, HC3, ⟨by omega⟩⟩
          · have hne : ((((s[k]'hk).toNat : Nat) : Int) != 10) = true := by
              rw [hsb]
              refine bne_iff_ne.mpr (fun e => hb (UInt8.toNat_inj.1 ?_))
              have : (10 : UInt8).toNat = 10 := rfl
              omega
            rw [if_neg hb] at hC
            have HC3 := Aside0.mk hC
            clear hC HC2 hsb hb hz
            go_wp2_with fail
            go_roundg kq2
            case measure => omega
            case rel => exact ⟨k + 1, l', f', rfl, rfl, by go_num, rfl, ⟨by have := HK2.out; omega⟩, HC3, ⟨by omega⟩⟩
        · have hC := HC2.out
          rw [List.drop_of_length_le (by omega)] at hC
          have HC3 := Aside0.mk hC
          have hd1 : decide ((k : Int) < (s.size : Int)) = false := decide_eq_false (by omega)
          have hks : k = s.size := by have := HK2.out; omega
          obtain ⟨l0, f0⟩ := HP2.out
          subst hks
          clear hC HC2 hz
          go_wp2_with fail
          go_roundg kq'
          case measure => omega
          case rel => exact ⟨i + 1, p + s.size, l', f', by go_num, rfl, rfl, by go_num, rfl, ⟨by have := HK.out; omega⟩, by simpa using HC3, ⟨by have := HP0.out; omega⟩⟩
    · have hC := HC.out
      rw [List.drop_of_length_le (by omega)] at hC
      have HC3 := Aside0.mk hC
      have hd1 : decide ((i : Int) < (r.ps.length : Int)) = false := decide_eq_false (by omega)
      clear hC HC
      by_cases hn : (l : Int) = n
      · have hn2 : ((l : Int) != n) = false := bne_eq_false_iff_eq.mpr hn
        have HN := Aside0.mk hn
        clear hn
        go_wp2_with fail
        refine bodyPost_ret (results_ct rfl _ _ w.heap.size 39 #[.int .i64 (f : Int), .int .i64 (tot r.ps : Int)] (0, 0) _ rfl (by exact blk_new _ _) Tryd.underlying39 rfl (by kernel_rfl)) rfl ?_
        exact ⟨by rw [← HC3.out, HT.out]; simp only [txt, List.map_nil, List.flatten_nil, scan, lineR, if_pos HN.out]; rfl, by repeat (first | exact Below.refl _ _ | apply below_alloc | apply pw_below_drewN | apply below_drew1 | refine below_set ?_ (Nat.le_refl _))⟩
      · have hn2 : ((l : Int) != n) = true := bne_iff_ne.mpr hn
        have HN := Aside0.mk hn
        clear hn
        go_wp2_with fail
        refine bodyPost_ret (results_ct rfl _ _ w.heap.size 39 #[.int .i64 0, .int .i64 0] (0, 0) _ rfl (by exact blk_new _ _) Tryd.underlying39 rfl (by kernel_rfl)) rfl ?_
        exact ⟨by rw [← HC3.out, HT.out]; simp only [txt, List.map_nil, List.flatten_nil, scan, lineR, if_neg HN.out]; rfl, by repeat (first | exact Below.refl _ _ | apply below_alloc | apply pw_below_drewN | apply below_drew1 | refine below_set ?_ (Nat.le_refl _))⟩
end Go.Proofs.YtbioehoeoalalaaDoor.Rope
