/- The walk over characters; Of, Offset, Near, Begins of layer 2 and of the specification. -/
import Derived.Test.YtbioehoeoalalaaDoorPlaceSp3
set_option linter.unusedVariables false
set_option linter.unusedSimpArgs false
namespace Go.Proofs.YtbioehoeoalalaaDoor.P
open Go.RowKit Go.Proofs.YtbioehoeoalalaaDoorW.PrintWords Go.Proofs.YtbioehoeoalalaaDoorW.PrintLast Go.Proofs.YtbioehoeoalalaaDoorW.PrintMore
/-- From a place (column c so far) over characters up to off: where that ends, and the column there. -/
def wk (s : ByteArray) (off : Nat) (i c : Nat) : Nat × Nat := if h : i < off then wk s off (i + dn s i) (c + dw s i) else (i, c)
termination_by off - i
decreasing_by (have := dn_pos s i; omega)
theorem wk_lt (s : ByteArray) (off i c : Nat) (h : i < off) : wk s off i c = wk s off (i + dn s i) (c + dw s i) := by rw [wk, dif_pos h]
theorem wk_ge (s : ByteArray) (off i c : Nat) (h : ¬ i < off) : wk s off i c = (i, c) := by rw [wk, dif_neg h]
theorem wk_add (s : ByteArray) (off : Nat) : ∀ (d i c : Nat), off - i ≤ d → wk s off i c = ((wk s off i 0).1, c + (wk s off i 0).2) := by
  intro d
  induction d with
  | zero => intro i c hd; rw [wk_ge _ _ _ _ (by omega), wk_ge _ _ _ _ (by omega)]; rfl
  | succ d ih =>
    intro i c hd
    by_cases h : i < off
    · have hp := dn_pos s i
      rw [wk_lt _ _ _ _ h, wk_lt _ _ _ 0 h, ih (i + dn s i) (c + dw s i) (by omega), ih (i + dn s i) (0 + dw s i) (by omega)]
      simp only [Nat.zero_add, Nat.add_assoc]
    · rw [wk_ge _ _ _ _ h, wk_ge _ _ _ _ h]; rfl
/-- A walk comes to j. -/
def hit (s : ByteArray) (i j : Nat) : Prop := (wk s j i 0).1 = j
theorem hit_self (s : ByteArray) (i : Nat) : hit s i i := by unfold hit; rw [wk_ge _ _ _ _ (by omega)]
theorem hit_le (s : ByteArray) (i j : Nat) (h : hit s i j) : i ≤ j := by
  rcases Nat.lt_or_ge j i with h' | h'
  · unfold hit at h; rw [wk_ge _ _ _ _ (by omega)] at h; simp only at h; omega
  · exact h'
theorem hit_lt (s : ByteArray) (i j : Nat) (h : i < j) : hit s i j ↔ hit s (i + dn s i) j := by
  unfold hit
  rw [wk_lt _ _ _ _ h, wk_add s j (j - i) _ _ (by have := dn_pos s i; omega)]
/-- A line feed is always come to. -/
theorem hit_nl (s : ByteArray) (j : Nat) (hj : B s j = 10 ∨ j = s.size) (hjs : j ≤ s.size) : ∀ (d i : Nat), j - i ≤ d → i ≤ j → hit s i j := by
  intro d
  induction d with
  | zero =>
    intro i hd hi
    obtain rfl : i = j := by omega
    exact hit_self s i
  | succ d ih =>
    intro i hd hi
    by_cases h : i < j
    · have hp := dn_pos s i
      have hle : i + dn s i ≤ j := by
        rcases Nat.lt_or_ge j (i + dn s i) with h' | h'
        · exfalso
          rcases hj with hj | hj
          · exact dn_in s i j h h' hj
          · have := dn_le s i (by omega); omega
        · exact h'
      rw [hit_lt s i j h]
      exact ih _ (by omega) hle
    · obtain rfl : i = j := by omega
      exact hit_self s i
theorem wk_through (s : ByteArray) (off : Nat) (j : Nat) (hjo : j ≤ off) : ∀ (d i : Nat), j - i ≤ d → hit s i j → ∀ c, wk s off i c = wk s off j (c + (wk s j i 0).2) := by
  intro d
  induction d with
  | zero =>
    intro i hd hh c
    have := hit_le s i j hh
    obtain rfl : i = j := by omega
    rw [wk_ge s i i 0 (by omega)]
    rfl
  | succ d ih =>
    intro i hd hh c
    have hle := hit_le s i j hh
    by_cases h : i < j
    · have hp := dn_pos s i
      rw [wk_lt s off i c (by omega), wk_lt s j i 0 h, ih (i + dn s i) (by omega) ((hit_lt s i j h).1 hh) (c + dw s i), wk_add s j (j - i) (i + dn s i) (0 + dw s i) (by omega)]
      congr 1
      simp only
      omega
    · obtain rfl : i = j := by omega
      rw [wk_ge s i i 0 (by omega)]
      rfl
theorem hit_through (s : ByteArray) (i j off : Nat) (hjo : j ≤ off) (hh : hit s i j) : hit s i off ↔ hit s j off := by
  unfold hit
  rw [wk_through s off j hjo (j - i) i (Nat.le_refl _) hh 0, wk_add s off (off - j) j _ (Nat.le_refl _)]
/-- How many line feeds stand before a place. -/
def nls (s : ByteArray) (i : Nat) : Nat := (s.data.toList.take i).count 10
theorem get_B (s : ByteArray) (i : Nat) (h : i < s.data.toList.length) : (s.data.toList[i]).toNat = B s i := by
  have h' : i < s.size := by rw [← Ut.size_data]; exact h
  have := bt_B s i h'
  rw [← bt_at s (i : Int) h'] at this
  have e : s[((i : Int)).toNat]'h' = s.data.toList[i] := rfl
  rw [e] at this
  omega
theorem nls_succ (s : ByteArray) (i : Nat) (h : i < s.size) : nls s (i + 1) = nls s i + (if B s i = 10 then 1 else 0) := by
  have hl : i < s.data.toList.length := by rw [Ut.size_data]; exact h
  unfold nls
  rw [List.take_succ_eq_append_getElem hl, List.count_append, ← get_B s i hl]
  congr 1
  by_cases c : s.data.toList[i] = 10
  · rw [c]; rfl
  · rw [if_neg (fun e => c (by apply UInt8.toNat_inj.1; rw [e]; rfl)), List.count_singleton]
    simpa using c
theorem nls_range (s : ByteArray) (i : Nat) : ∀ (d : Nat), i + d ≤ s.size → (∀ j, i ≤ j → j < i + d → B s j ≠ 10) → nls s (i + d) = nls s i
  | 0, _, _ => rfl
  | d + 1, h, hn => by
    have ih := nls_range s i d (by omega) (fun j h1 h2 => hn j h1 (by omega))
    rw [← Nat.add_assoc, nls_succ s (i + d) (by omega), ih, if_neg (hn (i + d) (by omega) (by omega))]
    rfl
theorem nls_dn (s : ByteArray) (i : Nat) (h : i < s.size) : nls s (i + dn s i) = nls s i + (if B s i = 10 then 1 else 0) := by
  have hp := dn_pos s i
  have hle := dn_le s i h
  have := nls_range s (i + 1) (dn s i - 1) (by omega) (fun j h1 h2 => dn_in s i j (by omega) (by omega))
  have e : i + 1 + (dn s i - 1) = i + dn s i := by omega
  rw [e] at this
  rw [this, nls_succ s i h]
/-- Where the line of a place begins. -/
def Lf (s : ByteArray) (off f : Nat) : Prop := f ≤ off ∧ (∀ j, f ≤ j → j < off → B s j ≠ 10) ∧ (f = 0 ∨ 0 < f ∧ B s (f - 1) = 10)
theorem Lf_hit {s : ByteArray} {off f : Nat} (h : Lf s off f) (ho : off ≤ s.size) : hit s 0 f := by
  rcases h.2.2 with h0 | ⟨h0, hb⟩
  · rw [h0]; exact hit_self s 0
  · have h1 := hit_nl s (f - 1) (.inl hb) (by have := h.1; omega) (f - 1) 0 (by omega) (by omega)
    rw [hit_through s 0 (f - 1) f (by omega) h1, hit_lt s (f - 1) f (by omega), (dn_nl s (f - 1) hb).1]
    have : f - 1 + 1 = f := by omega
    rw [this]
    exact hit_self s f
/-! ### ref.Of -/
theorem rof_loop (s : ByteArray) (off f : Nat) (hs : s.size ≤ 30000) (ho : off ≤ s.size) (hf : Lf s off f) : ∀ (d i line col : Nat), off - i ≤ d → i ≤ off → hit s i off → line ≤ i → col ≤ 2 * i →
    Ev (fun k => marginaliaref02_Of.l0 k s (off : Int) (i : Int) (line : Int) (col : Int)) (if f ≤ i then ((line : Int), ((wk s off i col).2 : Int)) else (((line + (nls s off - nls s i) : Nat) : Int), ((wk s off f 0).2 : Int))) := by
  intro d
  induction d with
  | zero =>
    intro i line col hd hi hh hl hc
    obtain rfl : i = off := by omega
    refine Ev.shift ?_
    simp only [marginaliaref02_Of.l0]
    refine Ev.neg (by omega) ?_
    rw [if_pos hf.1, wk_ge _ _ _ _ (by omega)]
    exact Ev.now _
  | succ d ih =>
    intro i line col hd hi hh hl hc
    by_cases h : i < off
    · have hp := dn_pos s i
      have hw := dw_pos s i
      have hle := dn_le s i (by omega)
      have hh' := (hit_lt s i off h).1 hh
      have hio := hit_le s _ _ hh'
      refine Ev.shift ?_
      simp only [marginaliaref02_Of.l0]
      refine Ev.pos (by omega) (Ev.bind (Char_ev s i (by omega) (by omega)) ?_)
      rw [bt_B s i (by omega), w64 (n := (i : Int) + (dn s i : Int)) (by omega) (by omega), w64 (n := (line : Int) + 1) (by omega) (by omega), w64 (n := (col : Int) + (dw s i : Int)) (by omega) (by omega)]
      refine Ev.pos (by omega) (Ev.pos (by omega) ?_)
      have hn := nls_dn s i (by omega)
      by_cases hb : B s i = 10
      · have hd1 := dn_nl s i hb
        have hfi : ¬ f ≤ i := fun g => hf.2.1 i g h hb
        rw [if_neg hfi]
        have := ih (i + dn s i) (line + 1) 0 (by omega) (by omega) hh' (by omega) (by omega)
        refine Ev.pos (by omega) ?_
        rw [if_pos hb] at hn
        have mono : nls s (i + dn s i) ≤ nls s off := by
          unfold nls
          have : (s.data.toList.take off).take (i + dn s i) = s.data.toList.take (i + dn s i) := by rw [List.take_take]; congr 1; omega
          rw [← this]
          exact List.Sublist.count_le _ (List.take_sublist _ _)
        by_cases hf2 : f ≤ i + dn s i
        · rw [if_pos hf2] at this
          have e : f = i + dn s i := by omega
          have z := nls_range s (i + dn s i) (off - (i + dn s i)) (by omega) (fun j h1 h2 => hf.2.1 j (by omega) (by omega))
          rw [show i + dn s i + (off - (i + dn s i)) = off by omega] at z
          rw [e, show line + (nls s off - nls s i) = line + 1 by omega]
          exact_mod_cast this
        · rw [if_neg hf2] at this
          rw [show line + (nls s off - nls s i) = line + 1 + (nls s off - nls s (i + dn s i)) by omega]
          exact_mod_cast this
      · have := ih (i + dn s i) line (col + dw s i) (by omega) (by omega) hh' (by omega) (by omega)
        refine Ev.neg (by omega) ?_
        rw [if_neg hb] at hn
        have hff : f ≤ i + dn s i ↔ f ≤ i := by
          constructor
          · intro g
            rcases hf.2.2 with h0 | ⟨h0, hb1⟩
            · omega
            · rcases Nat.lt_or_ge i f with g2 | g2
              · exfalso
                by_cases e : f - 1 = i
                · rw [e] at hb1; exact hb hb1
                · exact dn_in s i (f - 1) (by omega) (by omega) hb1
              · exact g2
          · omega
        by_cases hfi : f ≤ i
        · rw [if_pos (hff.2 hfi)] at this
          rw [if_pos hfi, wk_lt _ _ _ _ h]
          exact_mod_cast this
        · rw [if_neg (fun g => hfi (hff.1 g))] at this
          rw [if_neg hfi, ← Nat.add_zero (nls s i), ← hn]
          exact_mod_cast this
    · obtain rfl : i = off := by omega
      refine Ev.shift ?_
      simp only [marginaliaref02_Of.l0]
      refine Ev.neg (by omega) ?_
      rw [if_pos hf.1, wk_ge _ _ _ _ (by omega)]
      exact Ev.now _
theorem nls_zero (s : ByteArray) : nls s 0 = 0 := by simp [nls]
theorem rof_ev (s : ByteArray) (off f : Nat) (hs : s.size ≤ 30000) (ho : off ≤ s.size) (hf : Lf s off f) (hh : hit s 0 off) : Ev (fun k => marginaliaref02_Of.f k s (off : Int)) ((nls s off : Int), ((wk s off f 0).2 : Int)) := by
  unfold marginaliaref02_Of.f
  have := rof_loop s off f hs ho hf off 0 0 0 (by omega) (by omega) hh (by omega) (by omega)
  by_cases h0 : f ≤ 0
  · obtain rfl : f = 0 := by omega
    rw [if_pos h0] at this
    have z := nls_range s 0 off (by omega) (fun j h1 h2 => hf.2.1 j h1 (by omega))
    rw [Nat.zero_add, nls_zero] at z
    rw [z]
    exact this
  · rw [if_neg h0, nls_zero, Nat.sub_zero, Nat.zero_add] at this
    exact this
end Go.Proofs.YtbioehoeoalalaaDoor.P
