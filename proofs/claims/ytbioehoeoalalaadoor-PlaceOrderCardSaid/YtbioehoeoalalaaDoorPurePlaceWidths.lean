/- Width and Lines answer as the specification says: the law returns true. -/
import Derived.Test.YtbioehoeoalalaaDoorPlaceSp7
import Derived.Test.YtbioehoeoalalaaDoorOp
import Derived.Test.YtbioehoeoalalaaDoorPx15
set_option linter.unusedVariables false
set_option linter.unusedSimpArgs false
namespace Go.Proofs.YtbioehoeoalalaaDoor.Pure
open Go.RowKit Go.Proofs.YtbioehoeoalalaaDoor Go.Proofs.YtbioehoeoalalaaDoor.P Go.Proofs.YtbioehoeoalalaaDoorW.PrintWords Go.Proofs.YtbioehoeoalalaaDoorW.PrintLast Go.Proofs.YtbioehoeoalalaaDoorW.PrintMore
/-- Width: the text from a place on. -/
theorem Width_loop (s : ByteArray) (hs : s.size ≤ 30000) : ∀ (d i c : Nat), s.size - i ≤ d → i ≤ s.size → c ≤ 2 * i → Ev (fun k => place_Width.l0 k (s.extract i s.size) (c : Int)) (((wk s s.size i c).2 : Int), 0) ∧ Ev (fun k => marginaliaref02_Width.l0 k s (c : Int) (i : Int)) ((wk s s.size i c).2 : Int) := by
  have hE : ∀ i c : Nat, i = s.size → Ev (fun k => place_Width.l0 k (s.extract i s.size) (c : Int)) (((wk s s.size i c).2 : Int), 0) ∧ Ev (fun k => marginaliaref02_Width.l0 k s (c : Int) (i : Int)) ((wk s s.size i c).2 : Int) := by
    intro i c hi
    rw [wk_ge _ _ _ _ (by omega)]
    constructor
    · refine Ev.shift ?_
      simp only [place_Width.l0]
      refine Ev.pos ?_ (Ev.now _)
      have : (s.extract i s.size).data.toList.length = 0 := by rw [Ut.size_data, ByteArray.size_extract]; omega
      rw [Lib.toList_data]
      exact List.length_eq_zero_iff.mp this
    · refine Ev.shift ?_
      simp only [marginaliaref02_Width.l0]
      exact Ev.neg (by omega) (Ev.now _)
  intro d
  induction d with
  | zero => intro i c hd hi hc; exact hE i c (by omega)
  | succ d ih =>
    intro i c hd hi hc
    by_cases h : i < s.size
    · have hp := dn_pos s i
      have hw := dw_pos s i
      have hle := dn_le s i h
      obtain ⟨I1, I2⟩ := ih (i + dn s i) (c + dw s i) (by omega) hle (by omega)
      rw [wk_lt _ _ _ _ h]
      have hz : (s.extract i s.size).size = s.size - i := by rw [ByteArray.size_extract]; omega
      constructor
      · refine Ev.shift ?_
        simp only [place_Width.l0]
        refine Ev.neg ?_ (Ev.bind1 (step_cut s i s.size h (Nat.le_refl _) (.inl rfl)) (Ev.pos (by simp only; omega) (Ev.pos (by simp only; omega) ?_)))
        · rw [Lib.toList_data]
          intro e
          have := congrArg List.length e
          rw [Ut.size_data, hz] at this
          simp only [List.length_nil] at this
          omega
        · simp only
          rw [w64 (n := (c : Int) + (dw s i : Int)) (by omega) (by omega)]
          have e0 : ((dn s i : Int)).toNat = dn s i := rfl
          have e1 : (s.extract i s.size).extract (dn s i) (s.extract i s.size).size = s.extract (i + dn s i) s.size := by
            apply ByteArray.ext
            simp only [ByteArray.data_extract, Array.extract_extract]
            congr 1
            rw [hz]
            omega
          rw [e0, e1]
          exact_mod_cast I1
      · refine Ev.shift ?_
        simp only [marginaliaref02_Width.l0]
        refine Ev.pos (by omega) (Ev.bind (Char_ev s i (by omega) h) ?_)
        simp only
        rw [w64 (n := (i : Int) + (dn s i : Int)) (by omega) (by omega), w64 (n := (c : Int) + (dw s i : Int)) (by omega) (by omega)]
        exact_mod_cast I2
    · exact hE i c (by omega)
theorem Width_ev (s : ByteArray) (hs : s.size ≤ 20000) : Ev (fun k => place_Width.f k s) (((wk s s.size 0 0).2 : Int), 0) ∧ Ev (fun k => marginaliaref02_Width.f k s) ((wk s s.size 0 0).2 : Int) := by
  obtain ⟨h1, h2⟩ := Width_loop s (by omega) s.size 0 0 (by omega) (by omega) (by omega)
  have e : s.extract 0 s.size = s := by
    apply ByteArray.ext
    simp [ByteArray.data_extract]
  rw [e] at h1
  unfold place_Width.f marginaliaref02_Width.f
  exact ⟨Ev.neg (by omega) h1, h2⟩
theorem same_loop (l : List Sp) (hl : l.length ≤ 100000) : ∀ (d i : Nat), l.length - i ≤ d → i ≤ l.length → Ev (fun k => marginalialaw02_PlaceWidths.l0 k l l (i : Int)) true := by
  have AL : Ev (fun k => (marginalialaw02_alive.f k).bind fun t => (some t)) true := Ev.bind alive_ev (Ev.now _)
  intro d
  induction d with
  | zero =>
    intro i hd hi
    refine Ev.shift ?_
    simp only [marginalialaw02_PlaceWidths.l0]
    exact Ev.neg (by omega) AL
  | succ d ih =>
    intro i hd hi
    refine Ev.shift ?_
    simp only [marginalialaw02_PlaceWidths.l0]
    by_cases h : i < l.length
    · have := ih (i + 1) (by omega) (by omega)
      refine Ev.pos (by omega) (Ev.pos (by omega) (Ev.pos (by omega) (Ev.neg (by simp) ?_)))
      rw [w64 (n := (i : Int) + 1) (by omega) (by omega)]
      exact_mod_cast this
    · exact Ev.neg (by omega) AL
theorem PlaceWidths : ∀ (a0 : ByteArray), OpG.okS a0 → ∃ k, marginalialaw02_PlaceWidths.f k a0 = some true := by
  intro a0 _
  apply Ev.rounds
  have hz := short_size a0
  unfold marginalialaw02_PlaceWidths.f
  refine Ev.bind1 (Short_eq a0) ?_
  generalize short a0 = s at hz ⊢
  have AL : Ev (fun k => (marginalialaw02_alive.f k).bind fun t => (some t)) true := Ev.bind alive_ev (Ev.now _)
  by_cases hL : s.size > 20000
  · have W : Ev (fun k => place_Width.f k s) (0, 3) := by unfold place_Width.f; exact Ev.pos (by omega) (Ev.now _)
    have L : Ev (fun k => place_Lines.f k s) ([], 3) := by unfold place_Lines.f; exact Ev.pos (by omega) (Ev.now _)
    exact Ev.bind W (Ev.bind L (Ev.pos (by omega) (Ev.pos (by simp) (Ev.pos (by simp) (Ev.pos (by simp) (Ev.pos (by simp) AL))))))
  · obtain ⟨W1, W2⟩ := Width_ev s (by omega)
    have L : Ev (fun k => place_Lines.f k s) (lns s, 0) := by unfold place_Lines.f; exact Ev.neg (by omega) (Ev.bind (lines_ev s (by omega)) (Ev.now _))
    have hll : (lns s).length ≤ 100000 := by
      have := sl_length s.data.toList 0 0
      rw [Ut.size_data] at this
      unfold lns
      omega
    refine Ev.bind W1 (Ev.bind L (Ev.neg (by omega) (Ev.bind (rlines_ev s (by omega)) (Ev.bind W2 (Ev.pos (by simp) (Ev.pos (by simp) (Ev.pos (by simp) ?_)))))))
    have e : (((lns s).length : Int) != ((lns s).length : Int)) = false := by simp
    simp only
    rw [e]
    refine Ev.shift ?_
    simp only [marginalialaw02_PlaceWidths.j0]
    exact Ev.neg (by simp) (same_loop (lns s) hll _ 0 (Nat.le_refl _) (by omega))
end Go.Proofs.YtbioehoeoalalaaDoor.Pure
