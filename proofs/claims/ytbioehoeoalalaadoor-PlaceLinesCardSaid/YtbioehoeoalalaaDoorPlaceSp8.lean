/- Offsets and places, there and back. -/
import Derived.Test.YtbioehoeoalalaaDoorPlaceSp7
set_option linter.unusedVariables false
set_option linter.unusedSimpArgs false
namespace Go.Proofs.YtbioehoeoalalaaDoor.P
open Go.RowKit Go.Proofs.YtbioehoeoalalaaDoorW.PrintWords Go.Proofs.YtbioehoeoalalaaDoorW.PrintLast Go.Proofs.YtbioehoeoalalaaDoorW.PrintMore
theorem nls_mono (s : ByteArray) (i j : Nat) (h : i ≤ j) : nls s i ≤ nls s j := by
  unfold nls
  have : (s.data.toList.take j).take i = s.data.toList.take i := by rw [List.take_take]; congr 1; omega
  rw [← this]
  exact List.Sublist.count_le _ (List.take_sublist _ _)
/-- The span of a line: where it lies, and that no line feed stands in it. -/
theorem sl_line (s : ByteArray) : ∀ (r : List UInt8) (f i : Nat), s.data.toList.drop i = r → f ≤ i → i ≤ s.size → (∀ j, f ≤ j → j < i → B s j ≠ 10) → (f = 0 ∨ 0 < f ∧ B s (f - 1) = 10) → nls s f = nls s i →
    (sl r f i).length + nls s i = nls s s.size + 1 ∧ ∀ n, n < (sl r f i).length → ∃ a e : Nat, (sl r f i)[n]? = some ⟨(a : Int), (e : Int)⟩ ∧ a ≤ e ∧ Stop s e ∧ (∀ j, a ≤ j → j < e → B s j ≠ 10) ∧ (a = 0 ∨ 0 < a ∧ B s (a - 1) = 10) ∧ nls s a = nls s i + n := by
  have hz := Ut.size_data s
  intro r
  induction r with
  | nil =>
    intro f i hd hf hi hn h0 he
    have : s.size ≤ i := by
      rcases Nat.lt_or_ge i s.data.toList.length with h | h
      · rw [List.drop_eq_getElem_cons h] at hd; cases hd
      · omega
    have e1 : i = s.size := by omega
    refine ⟨by simp only [sl, List.length_singleton]; rw [e1]; omega, fun n hlt => ?_⟩
    simp only [sl, List.length_singleton] at hlt
    obtain rfl : n = 0 := by omega
    exact ⟨f, i, rfl, hf, ⟨hi, .inl e1⟩, hn, h0, by omega⟩
  | cons c r ih =>
    intro f i hd hf hi hn h0 he
    have hlt : i < s.data.toList.length := by
      rcases Nat.lt_or_ge i s.data.toList.length with h | h
      · exact h
      · rw [List.drop_of_length_le h] at hd; cases hd
    rw [List.drop_eq_getElem_cons hlt] at hd
    injection hd with e1 e2
    have hB := get_B s i hlt
    rw [e1] at hB
    have hs := nls_succ s i (by omega)
    simp only [sl]
    by_cases h : c = 10
    · have hb : B s i = 10 := by rw [← hB, h]; rfl
      rw [if_pos hb] at hs
      obtain ⟨g1, g2⟩ := ih (i + 1) (i + 1) e2 (Nat.le_refl _) (by omega) (fun j h1 h2 => by omega) (.inr ⟨by omega, hb⟩) rfl
      rw [if_pos h]
      refine ⟨by rw [List.length_cons]; omega, fun n hn2 => ?_⟩
      cases n with
      | zero => exact ⟨f, i, rfl, hf, ⟨hi, .inr hb⟩, hn, h0, by omega⟩
      | succ n =>
        rw [List.length_cons] at hn2
        obtain ⟨a, e, q1, q2, q3, q4, q5, q6⟩ := g2 n (by omega)
        exact ⟨a, e, by rw [List.getElem?_cons_succ]; exact q1, q2, q3, q4, q5, by omega⟩
    · have hb : B s i ≠ 10 := by
        rw [← hB]
        intro e
        apply h
        apply UInt8.toNat_inj.1
        rw [e]; rfl
      rw [if_neg hb] at hs
      rw [if_neg h]
      obtain ⟨g1, g2⟩ := ih f (i + 1) e2 (by omega) (by omega) (fun j h1 h2 => by
        by_cases e : j = i
        · rw [e]; exact hb
        · exact hn j h1 (by omega)) h0 (by omega)
      refine ⟨by omega, fun n hn2 => ?_⟩
      obtain ⟨a, e, q1, q2, q3, q4, q5, q6⟩ := g2 n hn2
      exact ⟨a, e, q1, q2, q3, q4, q5, by omega⟩
theorem lns_line (s : ByteArray) : (lns s).length = nls s s.size + 1 ∧ ∀ n, n < (lns s).length → ∃ a e : Nat, (lns s)[n]? = some ⟨(a : Int), (e : Int)⟩ ∧ a ≤ e ∧ Stop s e ∧ (∀ j, a ≤ j → j < e → B s j ≠ 10) ∧ (a = 0 ∨ 0 < a ∧ B s (a - 1) = 10) ∧ nls s a = n := by
  obtain ⟨h1, h2⟩ := sl_line s s.data.toList 0 0 rfl (Nat.le_refl _) (by omega) (fun j h1 h2 => by omega) (.inl rfl) rfl
  rw [nls_zero] at h1 h2
  refine ⟨by unfold lns; omega, fun n hn => ?_⟩
  obtain ⟨a, e, q1, q2, q3, q4, q5, q6⟩ := h2 n hn
  exact ⟨a, e, q1, q2, q3, q4, q5, by omega⟩
/-- The line of an offset. -/
theorem line_of (s : ByteArray) (off f : Nat) (ho : off ≤ s.size) (hf : Lf s off f) : nls s off < (lns s).length ∧ ∃ e : Nat, (lns s)[nls s off]? = some ⟨(f : Int), (e : Int)⟩ ∧ off ≤ e ∧ Stop s e := by
  obtain ⟨h1, h2⟩ := lns_line s
  have hm := nls_mono s off s.size ho
  refine ⟨by omega, ?_⟩
  obtain ⟨a, e, q1, q2, q3, q4, q5, q6⟩ := h2 (nls s off) (by omega)
  have hoe : off ≤ e := by
    rcases Nat.lt_or_ge e off with h | h
    · exfalso
      have hb : B s e = 10 := by
        rcases q3.2 with h' | h'
        · omega
        · exact h'
      have m1 := nls_mono s (e + 1) off (by omega)
      have m2 := nls_succ s e (by omega)
      have m3 := nls_mono s a e q2
      rw [if_pos hb] at m2
      omega
    · exact h
  have hao : a ≤ off := by
    rcases Nat.lt_or_ge off a with h | h
    · exfalso
      rcases q5 with h0 | ⟨h0, hb⟩
      · omega
      · have m1 := nls_mono s off (a - 1) (by omega)
        have m2 := nls_succ s (a - 1) (by have := q3.1; omega)
        rw [if_pos hb, show a - 1 + 1 = a by omega] at m2
        omega
    · exact h
  have e1 : f = a := by
    rcases Nat.lt_trichotomy f a with h | h | h
    · exfalso
      rcases q5 with h0 | ⟨h0, hb⟩
      · omega
      · exact hf.2.1 (a - 1) (by omega) (by omega) hb
    · exact h
    · exfalso
      rcases hf.2.2 with h0 | ⟨h0, hb⟩
      · omega
      · exact q4 (f - 1) (by omega) (by have := hf.1; omega) hb
  subst e1
  exact ⟨e, q1, hoe, q3⟩
theorem wk_pos (s : ByteArray) (off i : Nat) (h : i < off) : 1 ≤ (wk s off i 0).2 := by
  rw [wk_lt _ _ _ _ h, wk_add s off (off - i) _ _ (by have := dn_pos s i; omega)]
  have := dw_pos s i
  simp only
  omega
/-- find comes to a place by its column. -/
theorem fnd_hit (s : ByteArray) (e : Nat) (col : Int) (off : Nat) (hoe : off ≤ e) : ∀ (d i c : Nat), e - i ≤ d → hit s i off → (col : Int) = c + (wk s off i 0).2 → fnd s e col d i c = (off, c + (wk s off i 0).2) := by
  intro d
  induction d with
  | zero =>
    intro i c hd hh hc
    have := hit_le s i off hh
    obtain rfl : i = off := by omega
    rw [wk_ge _ _ _ _ (by omega)]
    rfl
  | succ d ih =>
    intro i c hd hh hc
    have hle := hit_le s i off hh
    simp only [fnd]
    by_cases h : i < off
    · have hp := wk_pos s off i h
      have hdp := dn_pos s i
      have hh2 := (hit_lt s i off h).1 hh
      have hw : (wk s off i 0).2 = dw s i + (wk s off (i + dn s i) 0).2 := by
        rw [wk_lt _ _ _ _ h, wk_add s off (off - i) _ _ (by omega)]
        simp
      rw [if_pos ⟨by omega, by omega⟩, if_neg (by omega), ih (i + dn s i) (c + dw s i) (by omega) hh2 (by omega), hw]
      congr 1
      omega
    · obtain rfl : i = off := by omega
      rw [wk_ge _ _ _ _ (by omega)] at hc ⊢
      rw [if_neg (by simp only at hc; omega)]
      rfl
/-- Where find stops, a character begins. -/
theorem fnd_reach (s : ByteArray) (e : Nat) (col : Int) (he : Stop s e) : ∀ (d i c : Nat), e - i ≤ d → i ≤ e → hit s i (fnd s e col d i c).1 ∧ (fnd s e col d i c).1 ≤ e ∧ (fnd s e col d i c).2 = c + (wk s (fnd s e col d i c).1 i 0).2 := by
  intro d
  induction d with
  | zero =>
    intro i c hd hi
    simp only [fnd]
    exact ⟨hit_self s i, hi, by rw [wk_ge _ _ _ _ (by omega)]; rfl⟩
  | succ d ih =>
    intro i c hd hi
    simp only [fnd]
    by_cases h : i < e ∧ (c : Int) < col
    · rw [if_pos h]
      by_cases h3 : (c + dw s i : Int) > col
      · rw [if_pos h3]
        exact ⟨hit_self s i, hi, by rw [wk_ge _ _ _ _ (by omega)]; rfl⟩
      · rw [if_neg h3]
        have hdp := dn_pos s i
        have hn := he.next h.1
        obtain ⟨g1, g2, g3⟩ := ih (i + dn s i) (c + dw s i) (by omega) hn
        have hlt : i < (fnd s e col d (i + dn s i) (c + dw s i)).1 := by have := hit_le s _ _ g1; omega
        refine ⟨(hit_lt s i _ hlt).2 g1, g2, ?_⟩
        rw [wk_lt _ _ _ _ hlt, wk_add s _ ((fnd s e col d (i + dn s i) (c + dw s i)).1 - i) (i + dn s i) (0 + dw s i) (by omega)]
        simp only
        omega
    · rw [if_neg h]
      exact ⟨hit_self s i, hi, by rw [wk_ge _ _ _ _ (by omega)]; rfl⟩
/-- The place of an offset has that offset. -/
theorem offs_of (s : ByteArray) (off f : Nat) (ho : off ≤ s.size) (hf : Lf s off f) (hh : hit s 0 off) : offs s (nls s off) (wk s off f 0).2 = some off ∧ near s (nls s off) (wk s off f 0).2 = off := by
  obtain ⟨h1, e, h2, h3, h4⟩ := line_of s off f ho hf
  have hg : (lns s).getD (nls s off) ⟨0, 0⟩ = ⟨(f : Int), (e : Int)⟩ := by rw [List.getD_eq_getElem?_getD, h2]; rfl
  have hfh : hit s f off := (hit_through s 0 f off hf.1 (Lf_hit hf ho)).1 hh
  have hd := fnd_hit s e ((wk s off f 0).2 : Int) off h3 (e - f) f 0 (Nat.le_refl _) hfh (by omega)
  have e3 : ((nls s off : Int)).toNat = nls s off := rfl
  have e4 : ((f : Int)).toNat = f := rfl
  have e5 : ((e : Int)).toNat = e := rfl
  constructor
  · unfold offs
    rw [if_neg (by omega)]
    simp only [e3, hg, e4, e5, hd]
    rw [if_pos (by omega)]
  · unfold near
    rw [if_neg (by omega), if_neg (by omega)]
    simp only [e3, hg, e4, e5]
    rw [if_neg (by omega), hd]
/-- The offset with a place has that place. -/
theorem of_offs (s : ByteArray) (line col : Int) (o : Nat) (h : offs s line col = some o) : o ≤ s.size ∧ hit s 0 o ∧ ∃ f, Lf s o f ∧ (nls s o : Int) = line ∧ ((wk s o f 0).2 : Int) = col ∧ near s line col = o := by
  unfold offs at h
  by_cases hb : line < 0 ∨ line ≥ ((lns s).length : Int) ∨ col < 0
  · rw [if_pos hb] at h; cases h
  rw [if_neg hb] at h
  obtain ⟨n, rfl⟩ : ∃ n : Nat, line = n := ⟨line.toNat, by omega⟩
  obtain ⟨_, g⟩ := lns_line s
  obtain ⟨a, e, q1, q2, q3, q4, q5, q6⟩ := g n (by omega)
  have hg : (lns s).getD n ⟨0, 0⟩ = ⟨(a : Int), (e : Int)⟩ := by rw [List.getD_eq_getElem?_getD, q1]; rfl
  have e3 : ((n : Int)).toNat = n := rfl
  have e4 : ((a : Int)).toNat = a := rfl
  have e5 : ((e : Int)).toNat = e := rfl
  simp only [e3, hg, e4, e5] at h
  by_cases hc : ((fnd s e col (e - a) a 0).2 : Int) = col
  · rw [if_pos hc] at h
    have ho := Option.some.inj h
    obtain ⟨r1, r2, r3⟩ := fnd_reach s e col q3 (e - a) a 0 (Nat.le_refl _) q2
    have hne : near s (n : Int) col = o := by
      unfold near
      rw [if_neg (by omega), if_neg (by omega)]
      simp only [e3, hg, e4, e5]
      rw [if_neg (by omega)]
      exact ho
    rw [ho] at r1 r2 r3
    have hao := hit_le s a o r1
    have hL : Lf s o a := ⟨hao, fun j h1 h2 => q4 j h1 (by omega), q5⟩
    have hos : o ≤ s.size := by have := q3.1; omega
    have z := nls_range s a (o - a) (by omega) (fun j h1 h2 => q4 j h1 (by omega))
    rw [show a + (o - a) = o by omega] at z
    exact ⟨hos, (hit_through s 0 a o hao (Lf_hit hL hos)).2 r1, a, hL, by omega, by omega, hne⟩
  · rw [if_neg hc] at h; cases h
theorem near_le (s : ByteArray) (line col : Int) : near s line col ≤ s.size := by
  unfold near
  by_cases h0 : line < 0
  · rw [if_pos h0]; omega
  · rw [if_neg h0]
    by_cases h1 : line ≥ ((lns s).length : Int)
    · rw [if_pos h1]; omega
    · rw [if_neg h1]
      obtain ⟨n, rfl⟩ : ∃ n : Nat, line = n := ⟨line.toNat, by omega⟩
      obtain ⟨a, e, q1, q2, q3⟩ := lns_form s n (by omega)
      have hg : (lns s).getD n ⟨0, 0⟩ = ⟨(a : Int), (e : Int)⟩ := by rw [List.getD_eq_getElem?_getD, q1]; rfl
      have e3 : ((n : Int)).toNat = n := rfl
      have e4 : ((a : Int)).toNat = a := rfl
      have e5 : ((e : Int)).toNat = e := rfl
      simp only [e3, hg, e4, e5]
      obtain ⟨r1, r2, r3⟩ := fnd_reach s e (if col < 0 then 0 else col) q3 (e - a) a 0 (Nat.le_refl _) q2
      have := q3.1
      omega
end Go.Proofs.YtbioehoeoalalaaDoor.P
