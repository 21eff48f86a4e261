/- find, Offset, Near, Width, Span, alive. -/
import Derived.Test.YtbioehoeoalalaaDoorPlaceSp5
import Derived.Test.YtbioehoeoalalaaDoorPx14
set_option linter.unusedVariables false
set_option linter.unusedSimpArgs false
namespace Go.Proofs.YtbioehoeoalalaaDoor.P
open Go.RowKit Go.Proofs.YtbioehoeoalalaaDoorW.PrintWords Go.Proofs.YtbioehoeoalalaaDoorW.PrintLast Go.Proofs.YtbioehoeoalalaaDoorW.PrintMore
/-- A place at which a line ends. -/
def Stop (s : ByteArray) (e : Nat) : Prop := e ≤ s.size ∧ (e = s.size ∨ B s e = 10)
theorem Stop.next {s : ByteArray} {e i : Nat} (h : Stop s e) (hi : i < e) : i + dn s i ≤ e := by
  rcases Nat.lt_or_ge e (i + dn s i) with h' | h'
  · exfalso
    rcases h.2 with h2 | h2
    · have := dn_le s i (by have := h.1; omega); omega
    · exact dn_in s i e hi h' h2
  · exact h'
/-- find: where it stops, and the column there. -/
def fnd (s : ByteArray) (e : Nat) (col : Int) : Nat → Nat → Nat → Nat × Nat
  | 0, i, c => (i, c)
  | d + 1, i, c => if i < e ∧ (c : Int) < col then (if (c + dw s i : Int) > col then (i, c) else fnd s e col d (i + dn s i) (c + dw s i)) else (i, c)
theorem find_loop (s : ByteArray) (e : Nat) (col f : Int) (hs : s.size ≤ 30000) (he : Stop s e) : ∀ (d i c : Nat), e - i ≤ d → i ≤ e → c ≤ 2 * i →
    Ev (fun k => place_find.l0 k s col (i : Int) (c : Int) f (e : Int)) (((fnd s e col d i c).1 : Int), ((((fnd s e col d i c).2 : Nat) : Int) == col)) := by
  have hes := he.1
  have fin : ∀ (i c : Nat) (b : Bool), b = false → Ev (fun k => place_find.j1 k s col (i : Int) (c : Int) b f (e : Int)) ((i : Int), ((c : Int) == col)) := by
    intro i c b hb
    refine Ev.shift ?_
    simp only [place_find.j1]
    exact Ev.neg (by simp [hb]) (Ev.now _)
  intro d
  induction d with
  | zero =>
    intro i c hd hi hc
    refine Ev.shift ?_
    simp only [place_find.l0, fnd]
    exact Ev.neg (by omega) (fin i c false rfl)
  | succ d ih =>
    intro i c hd hi hc
    refine Ev.shift ?_
    simp only [place_find.l0, fnd]
    by_cases h : i < e
    · refine Ev.pos (by omega) ?_
      by_cases h2 : (c : Int) < col
      · rw [decide_eq_true h2, if_pos ⟨h, h2⟩]
        have hp := dn_pos s i
        have hw := dw_pos s i
        have hle := he.next h
        refine Ev.shift ?_
        simp only [place_find.j1]
        have e0 : ((i : Int)).toNat = i := rfl
        have e1 : ((e : Int)).toNat = e := rfl
        rw [e0, e1]
        refine Ev.pos (by simp) (Ev.pos (by omega) (Ev.pos (by omega) (Ev.pos (by omega) (Ev.bind1 (step_cut s i e h hes he.2) ?_))))
        simp only
        rw [w64 (n := (i : Int) + (dn s i : Int)) (by omega) (by omega), w64 (n := (c : Int) + (dw s i : Int)) (by omega) (by omega)]
        by_cases h3 : (c + dw s i : Int) > col
        · rw [if_pos h3, show ((((i, c) : Nat × Nat).2 : Int) == col) = false from beq_eq_false_iff_ne.mpr (by simp only; omega)]
          exact Ev.pos h3 (Ev.now _)
        · rw [if_neg h3]
          refine Ev.neg h3 ?_
          have := ih (i + dn s i) (c + dw s i) (by omega) hle (by omega)
          exact_mod_cast this
      · rw [decide_eq_false h2, if_neg (fun g => h2 g.2)]
        exact fin i c false rfl
    · rw [if_neg (fun g => h g.1)]
      exact Ev.neg (by omega) (fin i c false rfl)
/-- ref.Offset's loop. -/
def rof (s : ByteArray) (e : Nat) (col : Int) : Nat → Nat → Nat → Nat × Nat
  | 0, i, c => (i, c)
  | d + 1, i, c => if i < e ∧ (c : Int) < col then rof s e col d (i + dn s i) (c + dw s i) else (i, c)
theorem rof_stop (s : ByteArray) (e : Nat) (col : Int) (d i c : Nat) (h : ¬ (c : Int) < col) : rof s e col d i c = (i, c) := by
  cases d with
  | zero => rfl
  | succ d => simp only [rof]; rw [if_neg (fun g => h g.2)]
/-- The two come to the column alike. -/
theorem fnd_rof (s : ByteArray) (e : Nat) (col : Int) : ∀ (d i c : Nat), (((fnd s e col d i c).2 : Int) = col ↔ ((rof s e col d i c).2 : Int) = col) ∧ (((fnd s e col d i c).2 : Int) = col → (fnd s e col d i c).1 = (rof s e col d i c).1) := by
  intro d
  induction d with
  | zero => intro i c; exact ⟨Iff.rfl, fun _ => rfl⟩
  | succ d ih =>
    intro i c
    simp only [fnd, rof]
    by_cases h : i < e ∧ (c : Int) < col
    · rw [if_pos h, if_pos h]
      by_cases h3 : (c + dw s i : Int) > col
      · rw [if_pos h3, rof_stop s e col d _ _ (by omega)]
        simp only
        have := h.2
        constructor
        · constructor <;> intro g <;> omega
        · intro g; omega
      · rw [if_neg h3]
        exact ih _ _
    · rw [if_neg h, if_neg h]
      exact ⟨Iff.rfl, fun _ => rfl⟩
theorem rof_loop2 (s : ByteArray) (l : List Sp) (line e f : Nat) (col : Int) (hs : s.size ≤ 30000) (he : Stop s e) (hl : line < l.length) (hx : l[line]? = some ⟨(f : Int), (e : Int)⟩) : ∀ (d i c : Nat), e - i ≤ d → i ≤ e → c ≤ 2 * i →
    Ev (fun k => marginaliaref02_Offset.l0 k s l (i : Int) (c : Int) (line : Int) col) (((rof s e col d i c).1 : Int), ((((rof s e col d i c).2 : Nat) : Int) == col)) := by
  have hes := he.1
  have hrd : rd_T39 l (line : Int) = ⟨(f : Int), (e : Int)⟩ := by
    unfold rd_T39
    have e2 : ((line : Int)).toNat = line := rfl
    rw [e2, List.getD_eq_getElem?_getD, hx]
    rfl
  intro d
  induction d with
  | zero =>
    intro i c hd hi hc
    refine Ev.shift ?_
    simp only [marginaliaref02_Offset.l0, rof, hrd]
    exact Ev.pos (by omega) (Ev.pos (by omega) (Ev.neg (by omega) (Ev.now _)))
  | succ d ih =>
    intro i c hd hi hc
    refine Ev.shift ?_
    simp only [marginaliaref02_Offset.l0, rof, hrd]
    refine Ev.pos (by omega) (Ev.pos (by omega) ?_)
    by_cases h : i < e
    · refine Ev.pos (by omega) ?_
      by_cases h2 : (c : Int) < col
      · rw [if_pos ⟨h, h2⟩]
        have hp := dn_pos s i
        have hw := dw_pos s i
        have hle := he.next h
        refine Ev.pos h2 (Ev.bind (Char_ev s i (by omega) (by omega)) ?_)
        simp only
        rw [w64 (n := (i : Int) + (dn s i : Int)) (by omega) (by omega), w64 (n := (c : Int) + (dw s i : Int)) (by omega) (by omega)]
        have := ih (i + dn s i) (c + dw s i) (by omega) hle (by omega)
        exact_mod_cast this
      · rw [if_neg (fun g => h2 g.2)]
        exact Ev.neg h2 (Ev.now _)
    · rw [if_neg (fun g => h g.1)]
      exact Ev.neg (by omega) (Ev.now _)
/-- ref.Near's loop is find, of a column that is not below nought. -/
theorem rnear_loop (s : ByteArray) (l : List Sp) (line e f : Nat) (col : Int) (hs : s.size ≤ 30000) (he : Stop s e) (hl : line < l.length) (hx : l[line]? = some ⟨(f : Int), (e : Int)⟩) : ∀ (d i c : Nat), e - i ≤ d → i ≤ e → c ≤ 2 * i → (c = 0 ∨ (c : Int) ≤ col) →
    Ev (fun k => marginaliaref02_Near.l0 k s l (i : Int) (c : Int) (line : Int) col) (((fnd s e (if col < 0 then 0 else col) d i c).1 : Int)) := by
  have hes := he.1
  have hrd : rd_T39 l (line : Int) = ⟨(f : Int), (e : Int)⟩ := by
    unfold rd_T39
    have e2 : ((line : Int)).toNat = line := rfl
    rw [e2, List.getD_eq_getElem?_getD, hx]
    rfl
  intro d
  induction d with
  | zero =>
    intro i c hd hi hc hcc
    refine Ev.shift ?_
    simp only [marginaliaref02_Near.l0, fnd, hrd]
    exact Ev.pos (by omega) (Ev.pos (by omega) (Ev.neg (by omega) (Ev.now _)))
  | succ d ih =>
    intro i c hd hi hc hcc
    refine Ev.shift ?_
    simp only [marginaliaref02_Near.l0, fnd, hrd]
    refine Ev.pos (by omega) (Ev.pos (by omega) ?_)
    by_cases h : i < e
    · have hp := dn_pos s i
      have hw := dw_pos s i
      have hle := he.next h
      refine Ev.pos (by omega) (Ev.bind (Char_ev s i (by omega) (by omega)) ?_)
      simp only
      rw [w64 (n := (i : Int) + (dn s i : Int)) (by omega) (by omega), w64 (n := (c : Int) + (dw s i : Int)) (by omega) (by omega)]
      by_cases hneg : col < 0
      · rw [if_pos hneg]
        have e0 : c = 0 := by omega
        rw [if_neg (by omega)]
        exact Ev.pos (by omega) (Ev.now _)
      · rw [if_neg hneg]
        by_cases h2 : (c : Int) < col
        · rw [if_pos ⟨h, h2⟩]
          by_cases h3 : (c + dw s i : Int) > col
          · rw [if_pos h3]
            exact Ev.pos h3 (Ev.now _)
          · rw [if_neg h3]
            refine Ev.neg h3 ?_
            have := ih (i + dn s i) (c + dw s i) (by omega) hle (by omega) (by right; push_cast; omega)
            rw [if_neg hneg] at this
            exact_mod_cast this
        · rw [if_neg (fun g => h2 g.2)]
          exact Ev.pos (by omega) (Ev.now _)
    · rw [if_neg (fun g => h g.1)]
      exact Ev.neg (by omega) (Ev.now _)
/-! ### the lines' spans -/
theorem sl_form (s : ByteArray) : ∀ (r : List UInt8) (f i : Nat), s.data.toList.drop i = r → f ≤ i → i ≤ s.size → ∀ x ∈ sl r f i, ∃ a e : Nat, x = ⟨(a : Int), (e : Int)⟩ ∧ a ≤ e ∧ Stop s e ∧ f ≤ a := by
  have hz := Ut.size_data s
  intro r
  induction r with
  | nil =>
    intro f i hd hf hi x hx
    have : s.size ≤ i := by
      rcases Nat.lt_or_ge i s.data.toList.length with h | h
      · rw [List.drop_eq_getElem_cons h] at hd; cases hd
      · omega
    simp only [sl, List.mem_singleton] at hx
    exact ⟨f, i, hx, hf, ⟨hi, .inl (by omega)⟩, Nat.le_refl _⟩
  | cons c r ih =>
    intro f i hd hf hi x hx
    have hlt : i < s.data.toList.length := by
      rcases Nat.lt_or_ge i s.data.toList.length with h | h
      · exact h
      · rw [List.drop_of_length_le h] at hd; cases hd
    rw [List.drop_eq_getElem_cons hlt] at hd
    injection hd with e1 e2
    simp only [sl] at hx
    by_cases h : c = 10
    · rw [if_pos h] at hx
      rcases List.mem_cons.1 hx with hx | hx
      · refine ⟨f, i, hx, hf, ⟨hi, .inr ?_⟩, Nat.le_refl _⟩
        rw [← get_B s i hlt, e1, h]
        rfl
      · obtain ⟨a, e, h1, h2, h3, h4⟩ := ih (i + 1) (i + 1) e2 (Nat.le_refl _) (by omega) x hx
        exact ⟨a, e, h1, h2, h3, by omega⟩
    · rw [if_neg h] at hx
      exact ih f (i + 1) e2 (by omega) (by omega) x hx
theorem lns_form (s : ByteArray) (i : Nat) (h : i < (lns s).length) : ∃ a e : Nat, (lns s)[i]? = some ⟨(a : Int), (e : Int)⟩ ∧ a ≤ e ∧ Stop s e := by
  obtain ⟨a, e, h1, h2, h3, _⟩ := sl_form s s.data.toList 0 0 rfl (by omega) (by omega) _ (List.getElem_mem h)
  exact ⟨a, e, by rw [List.getElem?_eq_getElem h, h1], h2, h3⟩
end Go.Proofs.YtbioehoeoalalaaDoor.P
