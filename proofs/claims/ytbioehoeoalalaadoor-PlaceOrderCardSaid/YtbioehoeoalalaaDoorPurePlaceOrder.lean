/- Offsets and their places have the same order, and the columns at the ends of all lines add up to the width: the law returns true. -/
import Derived.Test.YtbioehoeoalalaaDoorPlaceSp8
import Derived.Test.YtbioehoeoalalaaDoorPurePlaceWidths
import Derived.Test.YtbioehoeoalalaaDoorOp
import Derived.Test.YtbioehoeoalalaaDoorPx16
set_option linter.unusedVariables false
set_option linter.unusedSimpArgs false
namespace Go.Proofs.YtbioehoeoalalaaDoor.Pure
open Go.RowKit Go.Proofs.YtbioehoeoalalaaDoor Go.Proofs.YtbioehoeoalalaaDoor.P Go.Proofs.YtbioehoeoalalaaDoorW.PrintWords Go.Proofs.YtbioehoeoalalaaDoorW.PrintLast Go.Proofs.YtbioehoeoalalaaDoorW.PrintMore
theorem wk_le (s : ByteArray) (off : Nat) : ∀ (d i : Nat), off - i ≤ d → (wk s off i 0).2 ≤ 2 * (off - i) := by
  intro d
  induction d with
  | zero => intro i hd; rw [wk_ge _ _ _ _ (by omega)]; simp
  | succ d ih =>
    intro i hd
    by_cases h : i < off
    · have hp := dn_pos s i
      have hw := dw_pos s i
      have := ih (i + dn s i) (by omega)
      rw [wk_lt _ _ _ _ h, wk_add s off (off - i) _ _ (by omega)]
      simp only
      omega
    · rw [wk_ge _ _ _ _ h]; simp
theorem Lf_uniq {s : ByteArray} {off f f' : Nat} (hf : Lf s off f) (hf' : Lf s off f') : f = f' := by
  rcases Nat.lt_trichotomy f f' with h | h | h
  · exfalso
    rcases hf'.2.2 with h0 | ⟨h0, hb⟩
    · omega
    · exact hf.2.1 (f' - 1) (by omega) (by have := hf'.1; omega) hb
  · exact h
  · exfalso
    rcases hf.2.2 with h0 | ⟨h0, hb⟩
    · omega
    · exact hf'.2.1 (f - 1) (by omega) (by have := hf.1; omega) hb
theorem wk_join (s : ByteArray) (i j off : Nat) (hjo : j ≤ off) (hh : hit s i j) : (wk s off i 0).2 = (wk s j i 0).2 + (wk s off j 0).2 := by
  rw [wk_through s off j hjo (j - i) i (Nat.le_refl _) hh 0, wk_add s off (off - j) j _ (Nat.le_refl _)]
  simp
/-- A place that lies before another has the smaller line, or the smaller column. -/
theorem place_lt (s : ByteArray) (j i f g : Nat) (hji : j < i) (hi : i ≤ s.size) (hj : hit s 0 j) (hh : hit s 0 i) (hf : Lf s j f) (hg : Lf s i g) : nls s j < nls s i ∨ nls s j = nls s i ∧ (wk s j f 0).2 < (wk s i g 0).2 := by
  have hm := nls_mono s j i (by omega)
  by_cases e : nls s j = nls s i
  · refine .inr ⟨e, ?_⟩
    have hgj : g ≤ j := by
      rcases Nat.lt_or_ge j g with h | h
      · exfalso
        rcases hg.2.2 with h0 | ⟨h0, hb⟩
        · omega
        · have hgi := hg.1
          have m1 := nls_mono s j (g - 1) (by omega)
          have m2 := nls_succ s (g - 1) (by omega)
          rw [if_pos hb, show g - 1 + 1 = g by omega] at m2
          have m3 := nls_mono s g i hgi
          omega
      · exact h
    have hgg : Lf s j g := ⟨hgj, fun q h1 h2 => hg.2.1 q h1 (by omega), hg.2.2⟩
    obtain rfl := Lf_uniq hf hgg
    have h1 : hit s f j := (hit_through s 0 f j hf.1 (Lf_hit hf (by omega))).1 hj
    have h2 := wk_join s f j i (by omega) h1
    have h3 := wk_pos s i j hji
    omega
  · exact .inl (by omega)
theorem ord_loop (s : ByteArray) (hs : s.size ≤ 2000) (hJ : Ev (fun k => marginalialaw02_PlaceOrder.j1 k s ((wk s s.size 0 0).2 : Int) (lns s) (((lns s).length : Int) == 0)) true) : ∀ (d i : Nat) (la co : Int), s.size + 1 - i ≤ d → i ≤ s.size + 1 →
    (la = 0 ∧ co = -1 ∨ ∃ j f : Nat, j < i ∧ hit s 0 j ∧ Lf s j f ∧ la = nls s j ∧ co = (wk s j f 0).2) → Ev (fun k => marginalialaw02_PlaceOrder.l0 k s (i : Int) la co) true := by
  have W1 := (Width_ev s (by omega)).1
  have L : Ev (fun k => place_Lines.f k s) (lns s, 0) := by unfold place_Lines.f; exact Ev.neg (by omega) (Ev.bind (lines_ev s (by omega)) (Ev.now _))
  intro d
  induction d with
  | zero =>
    intro i la co hd hi hI
    refine Ev.shift ?_
    simp only [marginalialaw02_PlaceOrder.l0]
    exact Ev.neg (by omega) (Ev.bind W1 (Ev.bind L (Ev.pos rfl (Ev.pos rfl hJ))))
  | succ d ih =>
    intro i la co hd hi hI
    refine Ev.shift ?_
    simp only [marginalialaw02_PlaceOrder.l0]
    by_cases h : i ≤ s.size
    · obtain ⟨g, hg⟩ := Lf_ex s i h
      have F := Of_ev s i g (by omega) h hg
      rw [w64 (n := (i : Int) + 1) (by omega) (by omega)]
      refine Ev.pos (by omega) ?_
      by_cases hh : hit s 0 i
      · rw [if_pos hh] at F
        have I := ih (i + 1) (nls s i) ((wk s i g 0).2) (by omega) (by omega) (.inr ⟨i, g, by omega, hh, hg, rfl, rfl⟩)
        have I' : Ev (fun k => marginalialaw02_PlaceOrder.l0 k s ((i : Int) + 1) (nls s i : Int) ((wk s i g 0).2 : Int)) true := by exact_mod_cast I
        refine Ev.bind F (Ev.pos rfl ?_)
        have lt : la < (nls s i : Int) ∨ la = (nls s i : Int) ∧ co < ((wk s i g 0).2 : Int) := by
          rcases hI with ⟨rfl, rfl⟩ | ⟨j, f, h1, h2, h3, rfl, rfl⟩
          · omega
          · have := place_lt s j i f g h1 h h2 hh h3 hg
            omega
        refine Ev.neg (by simp only; omega) ?_
        by_cases e : (nls s i : Int) = la
        · exact Ev.pos e (Ev.neg (by simp only; omega) I')
        · exact Ev.neg e I'
      · rw [if_neg hh] at F
        have I := ih (i + 1) la co (by omega) (by omega) (by
          rcases hI with h' | ⟨j, f, h1, h2⟩
          · exact .inl h'
          · exact .inr ⟨j, f, by omega, h2⟩)
        have I' : Ev (fun k => marginalialaw02_PlaceOrder.l0 k s ((i : Int) + 1) la co) true := by exact_mod_cast I
        exact Ev.bind F (Ev.neg (by decide) I')
    · exact Ev.neg (by omega) (Ev.bind W1 (Ev.bind L (Ev.pos rfl (Ev.pos rfl hJ))))
theorem wk_nl (s : ByteArray) (e : Nat) (hb : B s e = 10) (hh : hit s 0 e) : (wk s (e + 1) 0 0).2 = (wk s e 0 0).2 + 1 := by
  obtain ⟨d1, d2⟩ := dn_nl s e hb
  rw [wk_join s 0 e (e + 1) (by omega) hh, wk_lt s (e + 1) e 0 (by omega), d1, d2, wk_ge s (e + 1) (e + 1) (0 + 1) (by omega)]
theorem sum_loop (s : ByteArray) (hs : s.size ≤ 2000) : ∀ (d n a e : Nat), (lns s).length - n ≤ d → n < (lns s).length → (lns s)[n]? = some ⟨(a : Int), (e : Int)⟩ →
    Ev (fun k => marginalialaw02_PlaceOrder.l1 k s ((wk s s.size 0 0).2 : Int) (lns s) ((((lns s).length - 1 - n + (wk s a 0 0).2 : Nat)) : Int) (n : Int)) true := by
  have AL : Ev (fun k => (marginalialaw02_alive.f k).bind fun t => (some t)) true := Ev.bind alive_ev (Ev.now _)
  obtain ⟨hlen, hline⟩ := lns_line s
  have hll : (lns s).length ≤ 2001 := by
    have := sl_length s.data.toList 0 0
    rw [Ut.size_data] at this
    unfold lns
    omega
  intro d
  induction d with
  | zero => intro n a e hd hn hx; omega
  | succ d ih =>
    intro n a e hd hn hx
    obtain ⟨a', e', q1, q2, q3, q4, q5, q6⟩ := hline n hn
    rw [hx] at q1
    injection q1 with q1
    injection q1 with q1 q1'
    obtain rfl : a = a' := by omega
    obtain rfl : e = e' := by omega
    have hes := q3.1
    have hL : Lf s e a := ⟨q2, fun j h1 h2 => q4 j h1 h2, q5⟩
    have h0e : hit s 0 e := hit_nl s e (by rcases q3.2 with h | h; exact .inr h; exact .inl h) hes e 0 (by omega) (by omega)
    have F := Of_ev s e a (by omega) hes hL
    rw [if_pos h0e] at F
    have z := nls_range s a (e - a) (by omega) (fun j h1 h2 => q4 j h1 (by omega))
    rw [show a + (e - a) = e by omega] at z
    have hW : (wk s e 0 0).2 = (wk s a 0 0).2 + (wk s e a 0).2 := wk_join s 0 a e q2 (Lf_hit hL hes)
    have b1 := wk_le s e e 0 (by omega)
    have hrd : rd_T39 (lns s) (n : Int) = ⟨(a : Int), (e : Int)⟩ := by
      unfold rd_T39
      have e2 : ((n : Int)).toNat = n := rfl
      rw [e2, List.getD_eq_getElem?_getD, hx]
      rfl
    refine Ev.shift ?_
    simp only [marginalialaw02_PlaceOrder.l1]
    rw [hrd, w64 (n := (n : Int) + 1) (by omega) (by omega)]
    refine Ev.pos (by omega) (Ev.pos (by omega) (Ev.bind F (Ev.pos rfl (Ev.pos (by simp only; omega) ?_))))
    simp only
    rw [w64 (by omega) (by omega)]
    by_cases hn1 : n + 1 < (lns s).length
    · obtain ⟨a', e', r1, r2, r3, r4, r5, r6⟩ := hline (n + 1) hn1
      have hae : e < a' := by
        rcases Nat.lt_or_ge e a' with h | h
        · exact h
        · have := nls_mono s a' e h
          omega
      have hb : B s e = 10 := by
        rcases q3.2 with h | h
        · have := r3.1; omega
        · exact h
      have m1 := nls_succ s e (by have := r3.1; omega)
      rw [if_pos hb] at m1
      have ea : a' = e + 1 := by
        rcases Nat.lt_or_ge (e + 1) a' with h | h
        · exfalso
          rcases r5 with h0 | ⟨h0, hb'⟩
          · omega
          · have m2 := nls_mono s (e + 1) (a' - 1) (by omega)
            have m3 := nls_succ s (a' - 1) (by have := r3.1; omega)
            rw [if_pos hb', show a' - 1 + 1 = a' by omega] at m3
            omega
        · omega
      have I := ih (n + 1) a' e' (by omega) hn1 r1
      have hw := wk_nl s e hb h0e
      rw [ea] at I
      have e1 : (((((lns s).length - 1 - n + (wk s a 0 0).2 : Nat)) : Int) + ((wk s e a 0).2 : Int)) = ((((lns s).length - 1 - (n + 1) + (wk s (e + 1) 0 0).2 : Nat)) : Int) := by omega
      rw [e1]
      exact_mod_cast I
    · have hes2 : e = s.size := by
        rcases q3.2 with h | h
        · exact h
        · exfalso
          rcases Nat.lt_or_ge e s.size with g | g
          · have m1 := nls_succ s e g
            rw [if_pos h] at m1
            have m2 := nls_mono s (e + 1) s.size (by omega)
            omega
          · have e3 : e = s.size := by omega
            rw [e3] at h
            unfold B at h
            have h2 : s.get! s.size = default := by
              unfold ByteArray.get!
              simp [Array.getElem!_eq_getD, Array.getD]
            rw [h2] at h
            exact absurd h (by decide)
      refine Ev.shift ?_
      simp only [marginalialaw02_PlaceOrder.l1]
      refine Ev.neg (by omega) (Ev.pos ?_ AL)
      rw [← hes2]
      omega
theorem PlaceOrder : ∀ (a0 : ByteArray), OpG.okS a0 → ∃ k, marginalialaw02_PlaceOrder.f k a0 = some true := by
  intro a0 _
  apply Ev.rounds
  unfold marginalialaw02_PlaceOrder.f
  have e0 : mn (a0.size : Int) 2000 = ((min a0.size 2000 : Nat) : Int) := mn_nat a0.size 2000
  rw [e0]
  refine Ev.pos (by omega) (Ev.pos (by omega) ?_)
  have e1 : (((min a0.size 2000 : Nat) : Int)).toNat = min a0.size 2000 := rfl
  rw [e1]
  have hs : (a0.extract 0 (min a0.size 2000)).size ≤ 2000 := by rw [ByteArray.size_extract]; omega
  generalize a0.extract 0 (min a0.size 2000) = s at hs ⊢
  have h1 := (lns_line s).1
  have hll : (lns s).length ≤ 2001 := by
    have := sl_length s.data.toList 0 0
    rw [Ut.size_data] at this
    unfold lns
    omega
  obtain ⟨a, e, q1, q2, q3, q4, q5, q6⟩ := (lns_line s).2 0 (by omega)
  have a0' : a = 0 := by
    rcases q5 with h | ⟨h0, hb⟩
    · exact h
    · exfalso
      have m := nls_succ s (a - 1) (by have := q3.1; omega)
      rw [if_pos hb, show a - 1 + 1 = a by omega] at m
      omega
  subst a0'
  have S := sum_loop s hs _ 0 0 e (Nat.le_refl _) (by omega) q1
  refine ord_loop s hs ?_ (s.size + 1) 0 0 (-1) (by omega) (by omega) (.inl ⟨rfl, rfl⟩)
  refine Ev.shift ?_
  simp only [marginalialaw02_PlaceOrder.j1]
  refine Ev.neg (fun h => by have := beq_iff_eq.mp h; omega) ?_
  rw [wk_ge s 0 0 0 (by omega)] at S
  rw [w64 (by omega) (by omega)]
  have e2 : ((lns s).length : Int) - 1 = (((lns s).length - 1 - 0 + 0 : Nat) : Int) := by omega
  rw [e2]
  exact S
end Go.Proofs.YtbioehoeoalalaaDoor.Pure
