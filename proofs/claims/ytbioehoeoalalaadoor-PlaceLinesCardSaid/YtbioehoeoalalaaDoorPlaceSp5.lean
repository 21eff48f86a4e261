/- place.Of, ref.Begins, find, Offset, Near, Width. -/
import Derived.Test.YtbioehoeoalalaaDoorPlaceSp4
set_option linter.unusedVariables false
set_option linter.unusedSimpArgs false
namespace Go.Proofs.YtbioehoeoalalaaDoor.P
open Go.RowKit Go.Proofs.YtbioehoeoalalaaDoorW.PrintWords Go.Proofs.YtbioehoeoalalaaDoorW.PrintLast Go.Proofs.YtbioehoeoalalaaDoorW.PrintMore
instance (s : ByteArray) (i j : Nat) : Decidable (hit s i j) := by unfold hit; infer_instance
/-! ### place.Of -/
theorem Of_loop (s : ByteArray) (off : Nat) (line : Int) (hs : s.size ≤ 30000) (ho : off ≤ s.size) : ∀ (d i col : Nat), off - i ≤ d → i ≤ s.size → col ≤ 2 * i →
    Ev (fun k => place_Of.l0 k s (off : Int) (i : Int) line (col : Int)) (if hit s i off then (line, ((wk s off i col).2 : Int), 0) else (0, 0, 2)) := by
  intro d
  induction d with
  | zero =>
    intro i col hd hi hc
    refine Ev.shift ?_
    simp only [place_Of.l0]
    refine Ev.neg (by omega) ?_
    by_cases e : i = off
    · subst e
      rw [if_pos (hit_self s i), wk_ge _ _ _ _ (by omega)]
      exact Ev.neg (by omega) (Ev.now _)
    · have hn : ¬ hit s i off := fun h => by have := hit_le s i off h; omega
      rw [if_neg hn]
      exact Ev.pos (by omega) (Ev.now _)
  | succ d ih =>
    intro i col hd hi hc
    by_cases h : i < off
    · have hp := dn_pos s i
      have hw := dw_pos s i
      have hle := dn_le s i (by omega)
      refine Ev.shift ?_
      simp only [place_Of.l0]
      have hst := step_cut s i s.size (by omega) (Nat.le_refl _) (.inl rfl)
      have e0 : ((i : Int)).toNat = i := rfl
      refine Ev.pos (by omega) (Ev.pos (by omega) (Ev.pos (by omega) ?_))
      rw [e0]
      refine Ev.bind1 hst ?_
      simp only
      rw [w64 (n := (i : Int) + (dn s i : Int)) (by omega) (by omega), w64 (n := (col : Int) + (dw s i : Int)) (by omega) (by omega)]
      have := ih (i + dn s i) (col + dw s i) (by omega) hle (by omega)
      rw [wk_lt _ _ _ _ h]
      simp only [hit_lt s i off h]
      exact_mod_cast this
    · refine Ev.shift ?_
      simp only [place_Of.l0]
      refine Ev.neg (by omega) ?_
      by_cases e : i = off
      · subst e
        rw [if_pos (hit_self s i), wk_ge _ _ _ _ (by omega)]
        exact Ev.neg (by omega) (Ev.now _)
      · have hn : ¬ hit s i off := fun h => by have := hit_le s i off h; omega
        rw [if_neg hn]
        exact Ev.pos (by omega) (Ev.now _)
theorem last_Lf (s : ByteArray) (off : Nat) (ho : off ≤ s.size) : ∃ f, Lf s off f ∧ Lib.lastIndexByte (s.extract 0 off) 10 = (f : Int) - 1 := by
  have hz : (s.extract 0 off).size = off := by rw [ByteArray.size_extract]; omega
  have hB : ∀ j, j < off → ((s.extract 0 off).data[j]!).toNat = B s j := by
    intro j hj
    have h1 : j < s.data.toList.length := by rw [Ut.size_data]; omega
    rw [← get_B s j h1]
    have h2 : j < (s.extract 0 off).data.size := by
      have : (s.extract 0 off).data.size = (s.extract 0 off).size := rfl
      omega
    rw [getElem!_pos _ j h2]
    simp [ByteArray.data_extract]
  have h := Lib.lastIdx_spec (s.extract 0 off) 10 (s.extract 0 off).size
  rw [hz] at h
  unfold Lib.lastIndexByte
  rw [hz]
  rcases h with ⟨h1, h2⟩ | ⟨i, h1, h2, h3, h4⟩
  · exact ⟨0, ⟨by omega, fun j _ hj e => h2 j hj (by rw [hB j hj, e]; rfl), .inl rfl⟩, by rw [h1]; rfl⟩
  · refine ⟨i + 1, ⟨by omega, fun j hj hj2 e => h4 j (by omega) hj2 (by rw [hB j hj2, e]; rfl), .inr ⟨by omega, ?_⟩⟩, by rw [h2]; omega⟩
    have := hB i h1
    have e : i + 1 - 1 = i := rfl
    rw [e]
    omega
theorem Of_ev (s : ByteArray) (off f : Nat) (hs : s.size ≤ 20000) (ho : off ≤ s.size) (hf : Lf s off f) : Ev (fun k => place_Of.f k s (off : Int)) (if hit s 0 off then ((nls s off : Int), ((wk s off f 0).2 : Int), 0) else (0, 0, 2)) := by
  obtain ⟨f', hf', hl⟩ := last_Lf s off ho
  have e : f = f' := by
    rcases Nat.lt_trichotomy f f' with h | h | h
    · exfalso
      rcases hf'.2.2 with h0 | ⟨h0, hb⟩
      · omega
      · exact hf.2.1 (f' - 1) (by omega) (by have := hf'.1; omega) hb
    · exact h
    · exfalso
      rcases hf.2.2 with h0 | ⟨h0, hb⟩
      · omega
      · exact hf'.2.1 (f - 1) (by omega) (by have := hf.1; omega) hb
  subst e
  unfold place_Of.f
  refine Ev.neg (by omega) (Ev.neg (by omega) ?_)
  rw [decide_eq_false (by omega : ¬ (off : Int) > (s.size : Int))]
  refine Ev.shift ?_
  simp only [place_Of.j0]
  have e0 : ((off : Int)).toNat = off := rfl
  rw [e0]
  refine Ev.neg (by decide) (Ev.pos (by omega) (Ev.pos (by omega) ?_))
  have hz : (s.extract 0 off).size = off := by rw [ByteArray.size_extract]; omega
  refine Ev.bind1 (a := (f : Int) - 1) (by unfold strings_LastIndexByte.f; rw [if_pos (by omega), hl]) ?_
  refine Ev.bind1 (a := (nls s off : Int)) ?_ ?_
  · unfold strings_Count.f
    rw [if_pos rfl]
    congr 1
    unfold Lib.countByte nls
    simp [ByteArray.data_extract, List.extract_eq_take_drop]
  · rw [w64 (n := (f : Int) - 1 + 1) (by omega) (by have := hf.1; omega), show (f : Int) - 1 + 1 = f by omega]
    have := Of_loop s off (nls s off : Int) (by omega) ho off f 0 (by omega) (by have := hf.1; omega) (by omega)
    simp only [← hit_through s 0 f off hf.1 (Lf_hit hf ho)] at this
    exact this
theorem Lf_ex (s : ByteArray) (off : Nat) (ho : off ≤ s.size) : ∃ f, Lf s off f := by
  obtain ⟨f, hf, _⟩ := last_Lf s off ho
  exact ⟨f, hf⟩
theorem Of_bad (s : ByteArray) (off : Int) (hs : s.size ≤ 20000) (h : off < 0 ∨ off > s.size) : Ev (fun k => place_Of.f k s off) (0, 0, 2) := by
  unfold place_Of.f
  refine Ev.neg (by omega) ?_
  by_cases h0 : off < 0
  · refine Ev.pos h0 (Ev.shift ?_)
    simp only [place_Of.j0]
    exact Ev.pos (by simp) (Ev.now _)
  · refine Ev.neg h0 ?_
    rw [decide_eq_true (by omega : off > (s.size : Int))]
    refine Ev.shift ?_
    simp only [place_Of.j0]
    exact Ev.pos (by simp) (Ev.now _)
theorem Of_long (s : ByteArray) (off : Int) (hs : s.size > 20000) : Ev (fun k => place_Of.f k s off) (0, 0, 3) := by
  unfold place_Of.f
  exact Ev.pos (by omega) (Ev.now _)
/-! ### ref.Begins -/
theorem Begins_loop (s : ByteArray) (hs : s.size ≤ 30000) : ∀ (d i : Nat) (acc : List Bool), s.size - i ≤ d → i ≤ s.size → acc.length = s.size + 1 →
    ∃ l : List Bool, Ev (fun k => marginaliaref02_Begins.l0 k s acc (i : Int)) l ∧ l.length = s.size + 1 ∧ ∀ off, off ≤ s.size → l[off]? = some (acc.getD off false || decide (hit s i off)) := by
  intro d
  have endc : ∀ (i : Nat) (acc : List Bool), i = s.size → acc.length = s.size + 1 →
    ∃ l : List Bool, Ev (fun k => marginaliaref02_Begins.l0 k s acc (i : Int)) l ∧ l.length = s.size + 1 ∧ ∀ off, off ≤ s.size → l[off]? = some (acc.getD off false || decide (hit s i off)) := by
    intro i acc hi ha
    refine ⟨acc.set s.size true, ?_, by simp [ha], fun off ho => ?_⟩
    · refine Ev.shift ?_
      simp only [marginaliaref02_Begins.l0]
      exact Ev.neg (by omega) (Ev.pos (by omega) (Ev.pos (by omega) (Ev.now _)))
    · rw [List.getElem?_set]
      by_cases e : s.size = off
      · subst e
        rw [hi]
        simp [ha, hit_self]
      · rw [if_neg e, decide_eq_false (fun h => by have := hit_le s i off h; omega)]
        simp [List.getD_eq_getElem?_getD, List.getElem?_eq_getElem (show off < acc.length by omega)]
  induction d with
  | zero => intro i acc hd hi ha; exact endc i acc (by omega) ha
  | succ d ih =>
    intro i acc hd hi ha
    by_cases h : i < s.size
    · have hp := dn_pos s i
      have hle := dn_le s i h
      obtain ⟨l, h1, h2, h3⟩ := ih (i + dn s i) (acc.set i true) (by omega) hle (by simp [ha])
      refine ⟨l, ?_, h2, fun off ho => ?_⟩
      · refine Ev.shift ?_
        simp only [marginaliaref02_Begins.l0]
        refine Ev.pos (by omega) (Ev.pos (by omega) (Ev.pos (by omega) (Ev.bind (Char_ev s i (by omega) h) ?_)))
        simp only
        rw [w64 (n := (i : Int) + (dn s i : Int)) (by omega) (by omega)]
        exact_mod_cast h1
      · rw [h3 off ho]
        congr 1
        by_cases e : i = off
        · subst e
          rw [decide_eq_true (hit_self s i), List.getD_eq_getElem?_getD, List.getElem?_set]
          simp [ha, h]
          left
          rw [if_pos (by omega)]
          rfl
        · have e1 : (acc.set i true).getD off false = acc.getD off false := by
            rw [List.getD_eq_getElem?_getD, List.getD_eq_getElem?_getD, List.getElem?_set_ne e]
          rw [e1]
          congr 1
          by_cases g : i < off
          · simp only [hit_lt s i off g]
          · rw [decide_eq_false (fun h => by have := hit_le s _ off h; omega), decide_eq_false (fun h => by have := hit_le s _ off h; omega)]
    · exact endc i acc (by omega) ha
theorem Begins_ev (s : ByteArray) (hs : s.size ≤ 30000) : ∃ l : List Bool, Ev (fun k => marginaliaref02_Begins.f k s) l ∧ l.length = s.size + 1 ∧ ∀ off : Nat, off ≤ s.size → rdOf false l (off : Int) = decide (hit s 0 off) := by
  have e : wrap64 ((s.size : Int) + 1) = ((s.size + 1 : Nat) : Int) := by rw [w64 (by omega) (by omega)]; omega
  obtain ⟨l, h1, h2, h3⟩ := Begins_loop s hs s.size 0 (List.replicate (s.size + 1) false) (by omega) (by omega) (by simp)
  refine ⟨l, ?_, h2, fun off ho => ?_⟩
  · unfold marginaliaref02_Begins.f
    rw [e]
    refine Ev.pos (by omega) (Ev.pos (by omega) ?_)
    exact h1
  · have := h3 off ho
    unfold rdOf
    have e2 : ((off : Int)).toNat = off := rfl
    rw [e2, List.getD_eq_getElem?_getD, this]
    simp [List.getD_eq_getElem?_getD, List.getElem?_replicate]
    rw [if_pos (by omega)]
    intro h
    cases h
end Go.Proofs.YtbioehoeoalalaaDoor.P
