/- Characters, lines, Of, Offset and Near: what they come to (PlaceSp to PlaceSp7 in one text, without Span). By mkpa (a program of this session). -/
import Derived.Test.YtbioehoeoalalaaDoorPx3
import Derived.Test.YtbioehoeoalalaaDoorPx10
import Derived.Test.YtbioehoeoalalaaDoorPx12
import Derived.Shelf.Unicode.DecodeSlow
import Derived.Test.YtbioehoeoalalaaDoorUt
import Derived.Lib.DecodeN
import Derived.Lib.SplitLaws
import Derived.KernelRfl
set_option linter.unusedVariables false
set_option linter.unusedSimpArgs false
namespace Go.Proofs.YtbioehoeoalalaaDoor.P
open Go.RowKit Go.Proofs.YtbioehoeoalalaaDoorW.PrintWords Go.Proofs.YtbioehoeoalalaaDoorW.PrintLast Go.Proofs.YtbioehoeoalalaaDoorW.PrintMore
/-! ### rounds -/
theorem Ev.shift {α : Type} {g : Nat → Option α} {r : α} (h : Ev (fun k => g (k + 1)) r) : Ev g r := Ev.step (fun _ => rfl) h
theorem Ev.pos {α : Type} {c : Prop} [Decidable c] {f g : Nat → Option α} {r : α} (h : c) (k : Ev f r) : Ev (fun n => if c then f n else g n) r := by
  simp only [if_pos h]
  exact k
theorem Ev.neg {α : Type} {c : Prop} [Decidable c] {f g : Nat → Option α} {r : α} (h : ¬ c) (k : Ev g r) : Ev (fun n => if c then f n else g n) r := by
  simp only [if_neg h]
  exact k
theorem Ev.bind1 {α β : Type} {o : Option α} {f : Nat → α → Option β} {a : α} {r : β} (h : o = some a) (k : Ev (fun n => f n a) r) : Ev (fun n => o.bind (f n)) r := by
  rw [h]
  exact k
theorem w64 {n : Int} (h : -9223372036854775808 ≤ n) (h' : n ≤ 9223372036854775807) : wrap64 n = n := by unfold wrap64; omega
/-! ### characters -/
/-- The byte at a place (0 beyond the end). -/
def B (s : ByteArray) (i : Nat) : Nat := (s.get! i).toNat
theorem B_lt (s : ByteArray) (i : Nat) : B s i < 256 := (s.get! i).toNat_lt
theorem bt_B (s : ByteArray) (i : Nat) (h : i < s.size) : bt s (i : Int) = B s i := by
  rw [← bt_at s (i : Int) h]
  unfold B
  rw [Utf8W.get!_of_lt s i h]
  rfl
def dc (s : ByteArray) (i : Nat) : Nat × Nat := Utf8.decode s i
/-- Bytes of the character at a place, and its width. -/
def dn (s : ByteArray) (i : Nat) : Nat := (dc s i).2
def dw (s : ByteArray) (i : Nat) : Nat := if (dc s i).1 ≥ 65536 then 2 else 1
theorem dc_eq (s : ByteArray) (i : Nat) : dc s i = Lib.decodeN (s.size - i) (B s i) (B s (i + 1)) (B s (i + 2)) (B s (i + 3)) := Lib.decode_at s i
theorem decodeN_pos (n b0 b1 b2 b3 : Nat) : 1 ≤ (Lib.decodeN n b0 b1 b2 b3).2 ∧ (Lib.decodeN n b0 b1 b2 b3).2 ≤ 4 := by
  unfold Lib.decodeN
  repeat' split
  all_goals simp
theorem decodeN_le (n b0 b1 b2 b3 : Nat) (h : 0 < n) : (Lib.decodeN n b0 b1 b2 b3).2 ≤ n := by
  unfold Lib.decodeN
  repeat' split
  all_goals (simp only; omega)
theorem dn_pos (s : ByteArray) (i : Nat) : 1 ≤ dn s i ∧ dn s i ≤ 4 := by
  unfold dn; rw [dc_eq]; exact decodeN_pos _ _ _ _ _
theorem dn_le (s : ByteArray) (i : Nat) (h : i < s.size) : i + dn s i ≤ s.size := by
  have : dn s i ≤ s.size - i := by unfold dn; rw [dc_eq]; exact decodeN_le _ _ _ _ _ (by omega)
  omega
theorem dw_pos (s : ByteArray) (i : Nat) : 1 ≤ dw s i ∧ dw s i ≤ 2 := by unfold dw; split <;> omega
/-- The bytes inside of a character are no line feeds. -/
theorem decodeN_in (n b0 b1 b2 b3 : Nat) : (1 < (Lib.decodeN n b0 b1 b2 b3).2 → b1 / 64 = 2) ∧ (2 < (Lib.decodeN n b0 b1 b2 b3).2 → b2 / 64 = 2) ∧ (3 < (Lib.decodeN n b0 b1 b2 b3).2 → b3 / 64 = 2) := by
  unfold Lib.decodeN
  repeat' split
  all_goals (simp only; omega)
theorem dn_in (s : ByteArray) (i j : Nat) (h1 : i < j) (h2 : j < i + dn s i) : B s j ≠ 10 := by
  have h := decodeN_in (s.size - i) (B s i) (B s (i + 1)) (B s (i + 2)) (B s (i + 3))
  have h4 := (dn_pos s i).2
  unfold dn at h2 h4
  rw [dc_eq] at h2 h4
  obtain ⟨a, b, c⟩ := h
  have : j = i + 1 ∨ j = i + 2 ∨ j = i + 3 := by omega
  rcases this with rfl | rfl | rfl
  · have := a (by omega); omega
  · have := b (by omega); omega
  · have := c (by omega); omega
theorem dn_nl (s : ByteArray) (i : Nat) (h : B s i = 10) : dn s i = 1 ∧ dw s i = 1 := by
  unfold dn dw
  rw [dc_eq, h]
  simp [Lib.decodeN]
/-- A text that is cut off at a line feed, or at its end, has the same characters before it. -/
theorem decodeN_cut (n m b0 b1 b2 b3 c1 c2 c3 : Nat) (hm : 0 < m) (hn : m ≤ n) (h1 : 1 < m → c1 = b1) (h2 : 2 < m → c2 = b2) (h3 : 3 < m → c3 = b3) (e : m = n ∨ (m = 1 → b1 = 10) ∧ (m = 2 → b2 = 10) ∧ (m = 3 → b3 = 10)) : Lib.decodeN m b0 c1 c2 c3 = Lib.decodeN n b0 b1 b2 b3 := by
  have p1 : (1 < m ∧ c1 / 64 = 2) ↔ (1 < n ∧ b1 / 64 = 2) := by omega
  have p2 : (1 < m ∧ c1 / 64 = 2) ∧ (2 < m ∧ c2 / 64 = 2) ↔ (1 < n ∧ b1 / 64 = 2) ∧ (2 < n ∧ b2 / 64 = 2) := by omega
  have p3 : (1 < m ∧ c1 / 64 = 2) ∧ (2 < m ∧ c2 / 64 = 2) ∧ (3 < m ∧ c3 / 64 = 2) ↔ (1 < n ∧ b1 / 64 = 2) ∧ (2 < n ∧ b2 / 64 = 2) ∧ (3 < n ∧ b3 / 64 = 2) := by omega
  unfold Lib.decodeN
  by_cases q1 : 1 < n ∧ b1 / 64 = 2
  · have e1 := h1 (p1.2 q1).1
    subst e1
    by_cases q2 : 2 < n ∧ b2 / 64 = 2
    · have r2 := (p2.2 ⟨q1, q2⟩).2
      have e2 := h2 r2.1
      subst e2
      by_cases q3 : 3 < n ∧ b3 / 64 = 2
      · have r3 := (p3.2 ⟨q1, q2, q3⟩).2.2
        have e3 := h3 r3.1
        subst e3
        simp only [(p1.2 q1), r2, r3, q1, q2, q3]
      · have r3 : ¬ (3 < m ∧ c3 / 64 = 2) := fun h => q3 ((p3.1 ⟨p1.2 q1, r2, h⟩).2.2)
        simp only [(p1.2 q1), r2, r3, q1, q2, q3, and_false, if_false]
    · have r2 : ¬ (2 < m ∧ c2 / 64 = 2) := fun h => q2 ((p2.1 ⟨p1.2 q1, h⟩).2)
      simp only [(p1.2 q1), r2, q1, q2, and_false, false_and, if_false]
  · have r1 : ¬ (1 < m ∧ c1 / 64 = 2) := fun h => q1 (p1.1 h)
    simp only [r1, q1, and_false, false_and, if_false]
end Go.Proofs.YtbioehoeoalalaaDoor.P

namespace Go.Proofs.YtbioehoeoalalaaDoor.P
open Go.RowKit Go.Proofs.YtbioehoeoalalaaDoorW.PrintWords Go.Proofs.YtbioehoeoalalaaDoorW.PrintLast Go.Proofs.YtbioehoeoalalaaDoorW.PrintMore
theorem Char_next (s : ByteArray) (i j : Nat) (x7 x8 code : Int) (r : Int × Int) (hj : (j : Int) ≤ x7) (hi : i + j < s.size) (hs : s.size ≤ 100000) (hj4 : j ≤ 4) (hc : 0 ≤ code ∧ code ≤ 1000000)
    (h : (128 ≤ B s (i + j) ∧ B s (i + j) ≤ 191 → Ev (fun k => marginaliaref02_Char.l0 k s i x7 x8 (64 * code + B s (i + j) - 128) ((j + 1 : Nat) : Int)) r) ∧ (¬ (128 ≤ B s (i + j) ∧ B s (i + j) ≤ 191) → r = (1, 1))) :
    Ev (fun k => marginaliaref02_Char.l0 k s i x7 x8 code j) r := by
  refine Ev.shift ?_
  simp only [marginaliaref02_Char.l0]
  have hb := B_lt s (i + j)
  have e1 : wrap64 ((i : Int) + (j : Int)) = ((i + j : Nat) : Int) := by rw [w64 (by omega) (by omega)]; omega
  rw [e1, bt_B s (i + j) hi, w64 (n := (B s (i + j) : Int)) (by omega) (by omega)]
  refine Ev.pos hj (Ev.pos (by omega) (Ev.pos (by omega) ?_))
  by_cases c1 : (B s (i + j) : Int) < 128
  · refine Ev.pos c1 ?_
    rw [h.2 (by omega)]
    exact Ev.now _
  · refine Ev.neg c1 ?_
    by_cases c2 : (B s (i + j) : Int) > 191
    · refine Ev.pos c2 ?_
      rw [h.2 (by omega)]
      exact Ev.now _
    · refine Ev.neg c2 ?_
      have e2 : wrap64 (wrap64 (wrap64 (64 * code) + (B s (i + j) : Int)) - 128) = 64 * code + B s (i + j) - 128 := by
        rw [w64 (n := 64 * code) (by omega) (by omega), w64 (n := 64 * code + (B s (i + j) : Int)) (by omega) (by omega), w64 (by omega) (by omega)]
      have e3 : wrap64 ((j : Int) + 1) = ((j + 1 : Nat) : Int) := by rw [w64 (by omega) (by omega)]; omega
      rw [e2, e3]
      exact h.1 (by omega)
def fin (x7 x8 code : Int) : Int × Int := if code < x8 ∨ code > 1114111 ∨ (55296 ≤ code ∧ code ≤ 57343) then (1, 1) else if code ≥ 65536 then (x7 + 1, 2) else (x7 + 1, 1)
theorem Char_last (s : ByteArray) (i j : Nat) (x7 x8 code : Int) (hj : ¬ (j : Int) ≤ x7) (h7 : 0 ≤ x7) (hj4 : j ≤ 4) : Ev (fun k => marginaliaref02_Char.l0 k s i x7 x8 code j) (fin x7 x8 code) := by
  refine Ev.shift ?_
  simp only [marginaliaref02_Char.l0]
  refine Ev.neg hj ?_
  have J : ∀ b : Bool, Ev (fun k => marginaliaref02_Char.j4 k x7 code b) (if b = true then (1, 1) else if code ≥ 65536 then (x7 + 1, 2) else (x7 + 1, 1)) := by
    intro b
    refine Ev.shift ?_
    simp only [marginaliaref02_Char.j4]
    rw [w64 (n := x7 + 1) (by omega) (by omega)]
    by_cases hb : b = true
    · simp only [if_pos hb]; exact Ev.now _
    · simp only [if_neg hb]
      by_cases hc : code ≥ 65536
      · simp only [if_pos hc]; exact Ev.now _
      · simp only [if_neg hc]; exact Ev.now _
  unfold fin
  by_cases c1 : code < x8
  · rw [if_pos (.inl c1)]
    exact Ev.pos c1 (J true)
  · refine Ev.neg c1 ?_
    by_cases c2 : code > 1114111
    · rw [if_pos (.inr (.inl c2))]
      exact Ev.pos c2 (J true)
    · refine Ev.neg c2 ?_
      by_cases c3 : code ≥ 55296
      · refine Ev.pos c3 ?_
        by_cases c4 : code ≤ 57343
        · rw [if_pos (.inr (.inr ⟨c3, c4⟩))]
          have := J true
          rw [decide_eq_true c4]
          exact this
        · rw [if_neg (by omega), decide_eq_false c4]
          exact J false
      · refine Ev.neg c3 ?_
        rw [if_neg (by omega)]
        exact J false
theorem j2_ev (s : ByteArray) (i : Nat) (m : Nat) (x8 code : Int) (r : Int × Int) (hs : s.size ≤ 100000) (hi : i < s.size) (hm : m ≤ 3) (h : (i + m ≥ s.size → r = (1, 1)) ∧ (i + m < s.size → Ev (fun k => marginaliaref02_Char.l0 k s i m x8 code ((1 : Nat) : Int)) r)) :
    Ev (fun k => marginaliaref02_Char.j2 k s i m x8 code) r := by
  refine Ev.shift ?_
  simp only [marginaliaref02_Char.j2]
  have e1 : wrap64 ((i : Int) + (m : Int)) = ((i + m : Nat) : Int) := by rw [w64 (by omega) (by omega)]; omega
  rw [e1]
  by_cases c : i + m ≥ s.size
  · rw [h.1 c]
    exact Ev.pos (by omega) (Ev.now _)
  · exact Ev.neg (by omega) (h.2 (by omega))
theorem Char_ev (s : ByteArray) (i : Nat) (hs : s.size ≤ 100000) (hi : i < s.size) : Ev (fun k => marginaliaref02_Char.f k s i) ((dn s i : Int), (dw s i : Int)) := by
  unfold marginaliaref02_Char.f dn dw
  rw [dc_eq]
  have h0 := B_lt s i
  have h1 := B_lt s (i + 1)
  have h2 := B_lt s (i + 2)
  have h3 := B_lt s (i + 3)
  rw [bt_B s i hi, w64 (n := (B s i : Int)) (by omega) (by omega)]
  refine Ev.pos (by omega) (Ev.pos (by omega) ?_)
  have G1 : ∀ b : Bool, (B s i < 194 ∨ 245 ≤ B s i) → True := fun _ _ => trivial
  by_cases a : 194 ≤ B s i ∧ B s i ≤ 223
  · -- two bytes
    refine Ev.pos (by omega) ?_
    rw [decide_eq_true (by omega : (B s i : Int) ≤ 223)]
    refine Ev.shift ?_
    simp only [marginaliaref02_Char.j0]
    refine Ev.pos (by simp) ?_
    rw [w64 (n := (B s i : Int) - 192) (by omega) (by omega)]
    refine j2_ev s i 1 128 _ _ hs hi (by omega) ⟨fun c => ?_, fun c => ?_⟩
    · unfold Lib.decodeN
      simp only [show ¬ (B s i < 128) by omega, show ¬ (1 < s.size - i) by omega, show ¬ (B s i / 16 = 14) by omega, show ¬ (B s i / 8 = 30) by omega, if_false, false_and, and_false]
      simp
    · refine Char_next s i 1 1 128 _ _ (by omega) c hs (by omega) (by omega) ⟨fun c1 => ?_, fun c1 => ?_⟩
      · have := Char_last s i 2 1 128 (64 * ((B s i : Int) - 192) + B s (i + 1) - 128) (by omega) (by omega) (by omega)
        have e : fin 1 128 (64 * ((B s i : Int) - 192) + B s (i + 1) - 128) = (((Lib.decodeN (s.size - i) (B s i) (B s (i + 1)) (B s (i + 2)) (B s (i + 3))).2 : Int), ((if (Lib.decodeN (s.size - i) (B s i) (B s (i + 1)) (B s (i + 2)) (B s (i + 3))).1 ≥ 65536 then 2 else 1 : Nat) : Int)) := by
          unfold fin Lib.decodeN
          rw [if_neg (by omega), if_neg (by omega), if_neg (by omega), if_pos (by omega), if_pos (by omega)]
          simp only
          rw [if_neg (by omega)]
          rfl
        rw [← e]
        exact this
      · unfold Lib.decodeN
        rw [if_neg (by omega), if_neg (by omega), if_neg (by omega), if_neg (by omega)]
        rfl
  · by_cases a2 : 224 ≤ B s i ∧ B s i ≤ 239
    · refine Ev.pos (by omega) ?_
      rw [decide_eq_false (by omega : ¬ (B s i : Int) ≤ 223)]
      refine Ev.shift ?_
      simp only [marginaliaref02_Char.j0]
      refine Ev.neg (by decide) (Ev.pos (by omega) ?_)
      rw [decide_eq_true (by omega : (B s i : Int) ≤ 239)]
      refine Ev.shift ?_
      simp only [marginaliaref02_Char.j1]
      refine Ev.pos (by simp) ?_
      rw [w64 (n := (B s i : Int) - 224) (by omega) (by omega)]
      refine j2_ev s i 2 2048 _ _ hs hi (by omega) ⟨fun c => ?_, fun c => ?_⟩
      · unfold Lib.decodeN
        rw [if_neg (by omega), if_neg (by omega), if_neg (by omega), if_neg (by omega)]
        rfl
      · refine Char_next s i 1 2 2048 _ _ (by omega) (by omega) hs (by omega) (by omega) ⟨fun c1 => ?_, fun c1 => ?_⟩
        · refine Char_next s i 2 2 2048 _ _ (by omega) c hs (by omega) (by omega) ⟨fun c2 => ?_, fun c2 => ?_⟩
          · have := Char_last s i 3 2 2048 (64 * (64 * ((B s i : Int) - 224) + B s (i + 1) - 128) + B s (i + 2) - 128) (by omega) (by omega) (by omega)
            have e : fin 2 2048 (64 * (64 * ((B s i : Int) - 224) + B s (i + 1) - 128) + B s (i + 2) - 128) = (((Lib.decodeN (s.size - i) (B s i) (B s (i + 1)) (B s (i + 2)) (B s (i + 3))).2 : Int), ((if (Lib.decodeN (s.size - i) (B s i) (B s (i + 1)) (B s (i + 2)) (B s (i + 3))).1 ≥ 65536 then 2 else 1 : Nat) : Int)) := by
              unfold fin Lib.decodeN
              rw [if_neg (c := B s i < 128) (by omega), if_neg (c := B s i / 32 = 6 ∧ _) (by omega), if_pos (c := B s i / 16 = 14 ∧ _) (by omega)]
              split
              · rw [if_neg (by omega)]; rfl
              · rw [if_neg (by omega), if_pos (by omega)]
                simp only
                rw [if_neg (by omega)]
                rfl
            rw [← e]
            exact this
          · unfold Lib.decodeN
            rw [if_neg (by omega), if_neg (by omega), if_neg (by omega), if_neg (by omega)]
            rfl
        · unfold Lib.decodeN
          rw [if_neg (by omega), if_neg (by omega), if_neg (by omega), if_neg (by omega)]
          rfl
    · by_cases a3 : 240 ≤ B s i ∧ B s i ≤ 244
      · refine Ev.pos (by omega) ?_
        rw [decide_eq_false (by omega : ¬ (B s i : Int) ≤ 223)]
        refine Ev.shift ?_
        simp only [marginaliaref02_Char.j0]
        refine Ev.neg (by decide) (Ev.pos (by omega) ?_)
        rw [decide_eq_false (by omega : ¬ (B s i : Int) ≤ 239)]
        refine Ev.shift ?_
        simp only [marginaliaref02_Char.j1]
        refine Ev.neg (by decide) (Ev.pos (by omega) (Ev.pos (by omega) ?_))
        rw [w64 (n := (B s i : Int) - 240) (by omega) (by omega)]
        refine j2_ev s i 3 65536 _ _ hs hi (by omega) ⟨fun c => ?_, fun c => ?_⟩
        · unfold Lib.decodeN
          rw [if_neg (by omega), if_neg (by omega), if_neg (by omega), if_neg (by omega)]
          rfl
        · refine Char_next s i 1 3 65536 _ _ (by omega) (by omega) hs (by omega) (by omega) ⟨fun c1 => ?_, fun c1 => ?_⟩
          · refine Char_next s i 2 3 65536 _ _ (by omega) (by omega) hs (by omega) (by omega) ⟨fun c2 => ?_, fun c2 => ?_⟩
            · refine Char_next s i 3 3 65536 _ _ (by omega) c hs (by omega) (by omega) ⟨fun c3 => ?_, fun c3 => ?_⟩
              · have := Char_last s i 4 3 65536 (64 * (64 * (64 * ((B s i : Int) - 240) + B s (i + 1) - 128) + B s (i + 2) - 128) + B s (i + 3) - 128) (by omega) (by omega) (by omega)
                have e : fin 3 65536 (64 * (64 * (64 * ((B s i : Int) - 240) + B s (i + 1) - 128) + B s (i + 2) - 128) + B s (i + 3) - 128) = (((Lib.decodeN (s.size - i) (B s i) (B s (i + 1)) (B s (i + 2)) (B s (i + 3))).2 : Int), ((if (Lib.decodeN (s.size - i) (B s i) (B s (i + 1)) (B s (i + 2)) (B s (i + 3))).1 ≥ 65536 then 2 else 1 : Nat) : Int)) := by
                  unfold fin Lib.decodeN
                  rw [if_neg (c := B s i < 128) (by omega), if_neg (c := B s i / 32 = 6 ∧ _) (by omega), if_neg (c := B s i / 16 = 14 ∧ _) (by omega), if_pos (c := B s i / 8 = 30 ∧ _) (by omega)]
                  split
                  · rw [if_neg (by omega)]; rfl
                  · rw [if_pos (by omega), if_pos (by omega)]
                    simp only
                    rw [if_pos (by omega)]
                    rfl
                rw [← e]
                exact this
              · unfold Lib.decodeN
                rw [if_neg (by omega), if_neg (by omega), if_neg (by omega), if_neg (by omega)]
                rfl
            · unfold Lib.decodeN
              rw [if_neg (by omega), if_neg (by omega), if_neg (by omega), if_neg (by omega)]
              rfl
          · unfold Lib.decodeN
            rw [if_neg (by omega), if_neg (by omega), if_neg (by omega), if_neg (by omega)]
            rfl
      · have e : (((Lib.decodeN (s.size - i) (B s i) (B s (i + 1)) (B s (i + 2)) (B s (i + 3))).2 : Int), ((if (Lib.decodeN (s.size - i) (B s i) (B s (i + 1)) (B s (i + 2)) (B s (i + 3))).1 ≥ 65536 then 2 else 1 : Nat) : Int)) = (1, 1) := by
          unfold Lib.decodeN
          by_cases b : B s i < 128
          · rw [if_pos b]
            simp only
            rw [if_neg (by omega)]
            rfl
          · rw [if_neg b]
            by_cases b1 : B s i / 32 = 6 ∧ (1 < s.size - i ∧ B s (i + 1) / 64 = 2)
            · rw [if_pos b1, if_neg (by omega)]; rfl
            · rw [if_neg b1, if_neg (c := B s i / 16 = 14 ∧ _) (by omega)]
              by_cases b2 : B s i / 8 = 30 ∧ (1 < s.size - i ∧ B s (i + 1) / 64 = 2) ∧ (2 < s.size - i ∧ B s (i + 2) / 64 = 2) ∧ (3 < s.size - i ∧ B s (i + 3) / 64 = 2)
              · rw [if_pos b2, if_neg (by omega)]; rfl
              · rw [if_neg b2]; rfl
        rw [e]
        by_cases c : (B s i : Int) ≥ 194
        · refine Ev.pos c ?_
          rw [decide_eq_false (by omega : ¬ (B s i : Int) ≤ 223)]
          refine Ev.shift ?_
          simp only [marginaliaref02_Char.j0]
          refine Ev.neg (by decide) (Ev.pos (by omega) ?_)
          rw [decide_eq_false (by omega : ¬ (B s i : Int) ≤ 239)]
          refine Ev.shift ?_
          simp only [marginaliaref02_Char.j1]
          exact Ev.neg (by decide) (Ev.pos (by omega) (Ev.neg (by omega) (Ev.now _)))
        · refine Ev.neg c (Ev.shift ?_)
          simp only [marginaliaref02_Char.j0]
          refine Ev.neg (by decide) (Ev.neg (by omega) (Ev.shift ?_))
          simp only [marginaliaref02_Char.j1]
          exact Ev.neg (by decide) (Ev.neg (by omega) (Ev.now _))
set_option maxHeartbeats 1000000 in
/-- step, of the text from a place up to a line feed or its end. -/
theorem step_cut (s : ByteArray) (i e : Nat) (hi : i < e) (he : e ≤ s.size) (h : e = s.size ∨ B s e = 10) : place_step.f (s.extract i e) = some ((dn s i : Int), (dw s i : Int)) := by
  have hz : (s.extract i e).size = e - i := by rw [ByteArray.size_extract]; omega
  have hB : ∀ j, i + j < e → B (s.extract i e) j = B s (i + j) := by
    intro j hj
    unfold B
    rw [Utf8W.get!_of_lt (s.extract i e) j (by omega), Utf8W.get!_of_lt s (i + j) (by omega)]
    simp [ByteArray.getElem_extract]
  have key : Lib.decodeGo (s.extract i e) = dc s i := by
    unfold Lib.decodeGo
    rw [if_neg (by omega)]
    have := dc_eq (s.extract i e) 0
    unfold dc at this
    rw [this, dc_eq, hz]
    have e0 := hB 0 (by omega)
    simp only [Nat.add_zero, Nat.zero_add, Nat.sub_zero] at e0 ⊢
    rw [e0]
    have g : e - i = s.size - i ∨ (e - i = 1 → B s (i + 1) = 10) ∧ (e - i = 2 → B s (i + 2) = 10) ∧ (e - i = 3 → B s (i + 3) = 10) := by
      rcases h with h | h
      · left; omega
      · right
        refine ⟨fun g => ?_, fun g => ?_, fun g => ?_⟩
        · have q : e = i + 1 := by omega
          rw [q] at h; exact h
        · have q : e = i + 2 := by omega
          rw [q] at h; exact h
        · have q : e = i + 3 := by omega
          rw [q] at h; exact h
    have hc := decodeN_cut (s.size - i) (e - i) (B s i) (B s (i + 1)) (B s (i + 2)) (B s (i + 3)) (B (s.extract i e) 1) (B (s.extract i e) 2) (B (s.extract i e) 3) (by omega) (by omega) (fun h => hB 1 (by omega)) (fun h => hB 2 (by omega)) (fun h => hB 3 (by omega)) g
    exact hc
  unfold place_step.f
  rw [key]
  unfold dn dw
  congr 2
  by_cases c : (dc s i).1 ≥ 65536
  · rw [if_pos c, if_pos (by omega)]; rfl
  · rw [if_neg c, if_neg (by omega)]; rfl
end Go.Proofs.YtbioehoeoalalaaDoor.P

namespace Go.Proofs.YtbioehoeoalalaaDoor.P
open Go.RowKit Go.Proofs.YtbioehoeoalalaaDoorW.PrintWords Go.Proofs.YtbioehoeoalalaaDoorW.PrintLast Go.Proofs.YtbioehoeoalalaaDoorW.PrintMore
abbrev Sp := S39
/-- The spans of the lines of bytes that lie from i on, the first line's from f on. -/
def sl : List UInt8 → Nat → Nat → List Sp
  | [], f, i => [⟨f, i⟩]
  | c :: r, f, i => if c = 10 then ⟨f, i⟩ :: sl r (i + 1) (i + 1) else sl r f (i + 1)
def lns (s : ByteArray) : List Sp := sl s.data.toList 0 0
theorem sl_length (l : List UInt8) : ∀ f i, (sl l f i).length ≤ l.length + 1 := by
  induction l with
  | nil => intro f i; simp [sl]
  | cons c r ih =>
    intro f i
    simp only [sl]
    split
    · have := ih (i + 1) (i + 1); simp; omega
    · have := ih f (i + 1); simp; omega
def PK (l : List UInt8) : List (List UInt8) := Lib.splitK [10] 0 (Lib.count l [10]) l
def spn : Int → List (List UInt8) → List Sp
  | _, [] => []
  | a, p :: r => ⟨a, a + p.length⟩ :: spn (a + p.length + 1) r
theorem index_nil : Lib.index [] [(10 : UInt8)] = -1 := by simp [Lib.index]
theorem index_cons (c : UInt8) (r : List UInt8) : Lib.index (c :: r) [10] = if c = 10 then 0 else if Lib.index r [10] = -1 then -1 else Lib.index r [10] + 1 := by
  rw [Lib.index]
  by_cases h : c = 10
  · subst h; simp [List.isPrefixOf]
  · have hp : ([10] : List UInt8).isPrefixOf (c :: r) = false := by simp [List.isPrefixOf, Ne.symm h]
    rw [hp, if_neg h]
    simp
theorem PK_nil : PK [] = [[]] := by
  unfold PK
  rw [Lib.count_one]
  rfl
theorem PK_eq (r : List UInt8) : PK (10 :: r) = [] :: PK r := by
  unfold PK
  rw [Lib.count_cons_eq, Nat.add_comm]
  simp only [Lib.splitK]
  rw [index_cons, if_pos rfl]
  simp
theorem PK_ne (c : UInt8) (h : c ≠ 10) (r : List UInt8) : ∃ p ps, PK r = p :: ps ∧ PK (c :: r) = (c :: p) :: ps := by
  unfold PK
  rw [Lib.count_cons_ne c 10 r h]
  cases hk : Lib.count r [10] with
  | zero => exact ⟨r, [], rfl, rfl⟩
  | succ k =>
    have hne : Lib.index r [10] ≠ -1 := by
      intro e
      rw [Lib.count_miss e] at hk
      cases hk
    have hge := Lib.index_ge r [10]
    simp only [Lib.splitK]
    rw [index_cons, if_neg h, if_neg hne]
    have e1 : (Lib.index r [10] == -1) = false := by simpa using hne
    have e2 : (Lib.index r [10] + 1 == -1) = false := by
      have : Lib.index r [10] + 1 ≠ -1 := by omega
      simpa using this
    rw [e1, e2]
    refine ⟨_, _, rfl, ?_⟩
    have e3 : (Lib.index r [10] + 1).toNat + 0 = ((Lib.index r [10]).toNat + 0) + 1 := by omega
    have e4 : (Lib.index r [10] + 1).toNat + [(10 : UInt8)].length = ((Lib.index r [10]).toNat + [(10 : UInt8)].length) + 1 := by simp; omega
    simp only [Bool.false_eq_true, if_false]
    rw [e3, e4, List.take_succ_cons, List.drop_succ_cons]
    simp
theorem sl_PK : ∀ (l : List UInt8) (f i : Nat), ∃ p ps, PK l = p :: ps ∧ sl l f i = ⟨f, (i : Int) + p.length⟩ :: spn ((i : Int) + p.length + 1) ps
  | [], f, i => ⟨[], [], PK_nil, by simp [sl, spn]⟩
  | c :: r, f, i => by
    by_cases h : c = 10
    · subst h
      obtain ⟨p, ps, h1, h2⟩ := sl_PK r (i + 1) (i + 1)
      refine ⟨[], PK r, PK_eq r, ?_⟩
      simp only [sl]
      rw [h2, h1]
      simp [spn]
    · obtain ⟨p, ps, h1, h2⟩ := sl_PK r f (i + 1)
      obtain ⟨p', ps', h3, h4⟩ := PK_ne c h r
      rw [h1] at h3
      injection h3 with h3 h5
      subst h3 h5
      refine ⟨c :: p, ps, h4, ?_⟩
      simp only [sl]
      rw [if_neg h, h2]
      simp only [List.length_cons]
      have e : ((i + 1 : Nat) : Int) + p.length = (i : Int) + (p.length + 1 : Nat) := by omega
      rw [e]
theorem lns_PK (s : ByteArray) : spn 0 (PK s.data.toList) = lns s := by
  obtain ⟨p, ps, h1, h2⟩ := sl_PK s.data.toList 0 0
  unfold lns
  rw [h1, h2]
  simp [spn]
/-! ### place.lines -/
theorem lines_loop (ps : List ByteArray) (hl : ps.length ≤ 100000) : ∀ (r : List ByteArray) (i : Nat) (acc : List Sp) (a : Int), ps.drop i = r → acc.length ≤ i → 0 ≤ a → a + ((r.map (fun p => (p.size : Int) + 1)).sum) ≤ 1000000 →
    Ev (fun k => place_lines.l0 k acc a ps (ps.length : Int) (i : Int)) (acc ++ spn a (r.map (·.data.toList))) := by
  intro r
  induction r with
  | nil =>
    intro i acc a hd ha h0 hb
    have : ps.length ≤ i := by
      rcases Nat.lt_or_ge i ps.length with h | h
      · rw [List.drop_eq_getElem_cons h] at hd; cases hd
      · exact h
    refine Ev.shift ?_
    simp only [place_lines.l0, spn, List.map_nil, List.append_nil]
    exact Ev.neg (by omega) (Ev.now _)
  | cons p r ih =>
    intro i acc a hd ha h0 hb
    have hlt : i < ps.length := by
      rcases Nat.lt_or_ge i ps.length with h | h
      · exact h
      · rw [List.drop_of_length_le h] at hd; cases hd
    have hd' := hd
    rw [List.drop_eq_getElem_cons hlt] at hd'
    injection hd' with e1 e2
    have erd : rdOf ByteArray.empty ps (i : Int) = p := by
      rw [← e1]
      unfold rdOf
      simp [List.getD_eq_getElem?_getD, hlt]
    have hz : 0 ≤ ((r.map (fun p => (p.size : Int) + 1)).sum) := by
      clear ih hd e2 hb
      induction r with
      | nil => simp
      | cons q r ih => simp only [List.map_cons, List.sum_cons]; omega
    simp only [List.map_cons, List.sum_cons] at hb
    refine Ev.shift ?_
    simp only [place_lines.l0]
    rw [erd, w64 (n := a + (p.size : Int)) (by omega) (by omega), w64 (n := (p.size : Int) + 1) (by omega) (by omega), w64 (n := a + ((p.size : Int) + 1)) (by omega) (by omega), w64 (n := (i : Int) + 1) (by omega) (by omega)]
    refine Ev.pos (by omega) (Ev.pos (by omega) (Ev.pos (by omega) (Ev.pos (by omega) ?_)))
    have := ih (i + 1) (acc ++ [⟨a, a + p.size⟩]) (a + (p.size + 1)) e2 (by simp; omega) (by omega) (by omega)
    simp only [List.map_cons, spn, Ut.size_data]
    rw [List.append_assoc] at this
    have e3 : a + (p.size : Int) + 1 = a + ((p.size : Int) + 1) := by omega
    rw [e3]
    exact_mod_cast this
theorem tot_PK (l : List UInt8) : ((PK l).map (fun p => (p.length : Int) + 1)).sum = l.length + 1 := by
  induction l with
  | nil => rw [PK_nil]; rfl
  | cons c r ih =>
    by_cases h : c = 10
    · subst h
      rw [PK_eq]
      simp only [List.map_cons, List.sum_cons, List.length_nil, List.length_cons]
      rw [ih]; push_cast; omega
    · obtain ⟨p, ps, h1, h2⟩ := PK_ne c h r
      rw [h1] at ih
      rw [h2]
      simp only [List.map_cons, List.sum_cons, List.length_cons] at ih ⊢
      push_cast at ih ⊢
      omega
theorem lines_ev (s : ByteArray) (hs : s.size ≤ 30000) : Ev (fun k => place_lines.f k s) (lns s) := by
  unfold place_lines.f
  have hsz : (⟨#[10]⟩ : ByteArray).size = 1 := rfl
  have hlen := Lib.splitB_all ⟨#[10]⟩ (by rw [hsz]; omega) 0 (Lib.countB s ⟨#[10]⟩) s rfl
  have hle := Lib.countB_le ⟨#[10]⟩ (by rw [hsz]; omega) s.size s (Nat.le_refl _)
  have hdat := Lib.splitB_data ⟨#[10]⟩ 0 (Lib.countB s ⟨#[10]⟩) s
  have hPK : (Lib.splitB ⟨#[10]⟩ 0 (Lib.countB s ⟨#[10]⟩) s).map (·.data.toList) = PK s.data.toList := hdat
  refine Ev.bind1 (a := Lib.splitB ⟨#[10]⟩ 0 (Lib.countB s ⟨#[10]⟩) s) ?_ ?_
  · unfold strings_Split.f
    rw [if_pos ⟨by omega, by rw [hsz]; omega, hlen, by omega⟩]
  generalize Lib.splitB ⟨#[10]⟩ 0 (Lib.countB s ⟨#[10]⟩) s = ps at *
  have ht := tot_PK s.data.toList
  rw [← hPK, List.map_map] at ht
  have := lines_loop ps (by omega) ps 0 [] 0 rfl (by simp) (by omega) (by
    have e : (ps.map (fun p => (p.size : Int) + 1)) = ps.map ((fun p => (p.length : Int) + 1) ∘ (fun x => x.data.toList)) := by
      apply List.map_congr_left
      intro p _
      simp only [Function.comp, Ut.size_data]
    rw [e, ht, Ut.size_data]
    omega)
  rw [hPK, lns_PK] at this
  exact this
/-! ### ref01.Lines -/
theorem rlines_loop (s : ByteArray) (hs : s.size ≤ 30000) : ∀ (r : List UInt8) (i f : Nat) (acc : List Sp), s.data.toList.drop i = r → i ≤ s.size → acc.length ≤ i →
    Ev (fun k => marginaliaref01_Lines.l0 k s acc (f : Int) (i : Int)) (acc ++ sl r f i) := by
  intro r
  have hz := Ut.size_data s
  induction r with
  | nil =>
    intro i f acc hd hi ha
    have : s.size ≤ i := by
      rcases Nat.lt_or_ge i s.data.toList.length with h | h
      · rw [List.drop_eq_getElem_cons h] at hd; cases hd
      · omega
    obtain rfl : i = s.size := by omega
    refine Ev.shift ?_
    simp only [marginaliaref01_Lines.l0, sl]
    exact Ev.neg (by omega) (Ev.pos (by omega) (Ev.now _))
  | cons c r ih =>
    intro i f acc hd hi ha
    have hlt : i < s.data.toList.length := by
      rcases Nat.lt_or_ge i s.data.toList.length with h | h
      · exact h
      · rw [List.drop_of_length_le h] at hd; cases hd
    rw [List.drop_eq_getElem_cons hlt] at hd
    injection hd with e1 e2
    have eb : bt s (i : Int) = c.toNat := by
      rw [← bt_at s (i : Int) (by rw [← hz]; exact hlt), ← e1]
      rfl
    refine Ev.shift ?_
    simp only [marginaliaref01_Lines.l0, sl]
    rw [eb, w64 (n := (i : Int) + 1) (by omega) (by omega)]
    refine Ev.pos (by omega) (Ev.pos (by omega) ?_)
    by_cases h : c = 10
    · rw [if_pos h]
      refine Ev.pos (by rw [h]; rfl) (Ev.pos (by omega) ?_)
      have := ih (i + 1) (i + 1) (acc ++ [⟨f, i⟩]) e2 (by omega) (by simp; omega)
      rw [List.append_assoc] at this
      exact_mod_cast this
    · rw [if_neg h]
      refine Ev.neg (fun e => h ?_) ?_
      · apply UInt8.toNat_inj.1
        have : (10 : UInt8).toNat = 10 := rfl
        omega
      · have := ih (i + 1) f acc e2 (by omega) (by omega)
        exact_mod_cast this
theorem rlines_ev (s : ByteArray) (hs : s.size ≤ 30000) : Ev (fun k => marginaliaref01_Lines.f k s) (lns s) := by
  unfold marginaliaref01_Lines.f
  exact rlines_loop s hs _ 0 0 [] rfl (by omega) (by simp)
end Go.Proofs.YtbioehoeoalalaaDoor.P

namespace Go.Proofs.YtbioehoeoalalaaDoor.P
open Go.RowKit Go.Proofs.YtbioehoeoalalaaDoorW.PrintWords Go.Proofs.YtbioehoeoalalaaDoorW.PrintLast Go.Proofs.YtbioehoeoalalaaDoorW.PrintMore
/-- From a place (column c so far) over characters up to off: where that ends, and the column there. -/
def wk (s : ByteArray) (off : Nat) (i c : Nat) : Nat × Nat := if h : i < off then wk s off (i + dn s i) (c + dw s i) else (i, c)
termination_by off - i
decreasing_by (have := dn_pos s i; omega)
theorem wk_lt (s : ByteArray) (off i c : Nat) (h : i < off) : wk s off i c = wk s off (i + dn s i) (c + dw s i) := by rw [wk, dif_pos h]
theorem wk_ge (s : ByteArray) (off i c : Nat) (h : ¬ i < off) : wk s off i c = (i, c) := by rw [wk, dif_neg h]
theorem wk_add (s : ByteArray) (off : Nat) : ∀ (d i c : Nat), off - i ≤ d → wk s off i c = ((wk s off i 0).1, c + (wk s off i 0).2) := by
  intro d
  induction d with
  | zero => intro i c hd; rw [wk_ge _ _ _ _ (by omega), wk_ge _ _ _ _ (by omega)]; rfl
  | succ d ih =>
    intro i c hd
    by_cases h : i < off
    · have hp := dn_pos s i
      rw [wk_lt _ _ _ _ h, wk_lt _ _ _ 0 h, ih (i + dn s i) (c + dw s i) (by omega), ih (i + dn s i) (0 + dw s i) (by omega)]
      simp only [Nat.zero_add, Nat.add_assoc]
    · rw [wk_ge _ _ _ _ h, wk_ge _ _ _ _ h]; rfl
/-- A walk comes to j. -/
def hit (s : ByteArray) (i j : Nat) : Prop := (wk s j i 0).1 = j
theorem hit_self (s : ByteArray) (i : Nat) : hit s i i := by unfold hit; rw [wk_ge _ _ _ _ (by omega)]
theorem hit_le (s : ByteArray) (i j : Nat) (h : hit s i j) : i ≤ j := by
  rcases Nat.lt_or_ge j i with h' | h'
  · unfold hit at h; rw [wk_ge _ _ _ _ (by omega)] at h; simp only at h; omega
  · exact h'
theorem hit_lt (s : ByteArray) (i j : Nat) (h : i < j) : hit s i j ↔ hit s (i + dn s i) j := by
  unfold hit
  rw [wk_lt _ _ _ _ h, wk_add s j (j - i) _ _ (by have := dn_pos s i; omega)]
/-- A line feed is always come to. -/
theorem hit_nl (s : ByteArray) (j : Nat) (hj : B s j = 10 ∨ j = s.size) (hjs : j ≤ s.size) : ∀ (d i : Nat), j - i ≤ d → i ≤ j → hit s i j := by
  intro d
  induction d with
  | zero =>
    intro i hd hi
    obtain rfl : i = j := by omega
    exact hit_self s i
  | succ d ih =>
    intro i hd hi
    by_cases h : i < j
    · have hp := dn_pos s i
      have hle : i + dn s i ≤ j := by
        rcases Nat.lt_or_ge j (i + dn s i) with h' | h'
        · exfalso
          rcases hj with hj | hj
          · exact dn_in s i j h h' hj
          · have := dn_le s i (by omega); omega
        · exact h'
      rw [hit_lt s i j h]
      exact ih _ (by omega) hle
    · obtain rfl : i = j := by omega
      exact hit_self s i
theorem wk_through (s : ByteArray) (off : Nat) (j : Nat) (hjo : j ≤ off) : ∀ (d i : Nat), j - i ≤ d → hit s i j → ∀ c, wk s off i c = wk s off j (c + (wk s j i 0).2) := by
  intro d
  induction d with
  | zero =>
    intro i hd hh c
    have := hit_le s i j hh
    obtain rfl : i = j := by omega
    rw [wk_ge s i i 0 (by omega)]
    rfl
  | succ d ih =>
    intro i hd hh c
    have hle := hit_le s i j hh
    by_cases h : i < j
    · have hp := dn_pos s i
      rw [wk_lt s off i c (by omega), wk_lt s j i 0 h, ih (i + dn s i) (by omega) ((hit_lt s i j h).1 hh) (c + dw s i), wk_add s j (j - i) (i + dn s i) (0 + dw s i) (by omega)]
      congr 1
      simp only
      omega
    · obtain rfl : i = j := by omega
      rw [wk_ge s i i 0 (by omega)]
      rfl
theorem hit_through (s : ByteArray) (i j off : Nat) (hjo : j ≤ off) (hh : hit s i j) : hit s i off ↔ hit s j off := by
  unfold hit
  rw [wk_through s off j hjo (j - i) i (Nat.le_refl _) hh 0, wk_add s off (off - j) j _ (Nat.le_refl _)]
/-- How many line feeds stand before a place. -/
def nls (s : ByteArray) (i : Nat) : Nat := (s.data.toList.take i).count 10
theorem get_B (s : ByteArray) (i : Nat) (h : i < s.data.toList.length) : (s.data.toList[i]).toNat = B s i := by
  have h' : i < s.size := by rw [← Ut.size_data]; exact h
  have := bt_B s i h'
  rw [← bt_at s (i : Int) h'] at this
  have e : s[((i : Int)).toNat]'h' = s.data.toList[i] := rfl
  rw [e] at this
  omega
theorem nls_succ (s : ByteArray) (i : Nat) (h : i < s.size) : nls s (i + 1) = nls s i + (if B s i = 10 then 1 else 0) := by
  have hl : i < s.data.toList.length := by rw [Ut.size_data]; exact h
  unfold nls
  rw [List.take_succ_eq_append_getElem hl, List.count_append, ← get_B s i hl]
  congr 1
  by_cases c : s.data.toList[i] = 10
  · rw [c]; rfl
  · rw [if_neg (fun e => c (by apply UInt8.toNat_inj.1; rw [e]; rfl)), List.count_singleton]
    simpa using c
theorem nls_range (s : ByteArray) (i : Nat) : ∀ (d : Nat), i + d ≤ s.size → (∀ j, i ≤ j → j < i + d → B s j ≠ 10) → nls s (i + d) = nls s i
  | 0, _, _ => rfl
  | d + 1, h, hn => by
    have ih := nls_range s i d (by omega) (fun j h1 h2 => hn j h1 (by omega))
    rw [← Nat.add_assoc, nls_succ s (i + d) (by omega), ih, if_neg (hn (i + d) (by omega) (by omega))]
    rfl
theorem nls_dn (s : ByteArray) (i : Nat) (h : i < s.size) : nls s (i + dn s i) = nls s i + (if B s i = 10 then 1 else 0) := by
  have hp := dn_pos s i
  have hle := dn_le s i h
  have := nls_range s (i + 1) (dn s i - 1) (by omega) (fun j h1 h2 => dn_in s i j (by omega) (by omega))
  have e : i + 1 + (dn s i - 1) = i + dn s i := by omega
  rw [e] at this
  rw [this, nls_succ s i h]
/-- Where the line of a place begins. -/
def Lf (s : ByteArray) (off f : Nat) : Prop := f ≤ off ∧ (∀ j, f ≤ j → j < off → B s j ≠ 10) ∧ (f = 0 ∨ 0 < f ∧ B s (f - 1) = 10)
theorem Lf_hit {s : ByteArray} {off f : Nat} (h : Lf s off f) (ho : off ≤ s.size) : hit s 0 f := by
  rcases h.2.2 with h0 | ⟨h0, hb⟩
  · rw [h0]; exact hit_self s 0
  · have h1 := hit_nl s (f - 1) (.inl hb) (by have := h.1; omega) (f - 1) 0 (by omega) (by omega)
    rw [hit_through s 0 (f - 1) f (by omega) h1, hit_lt s (f - 1) f (by omega), (dn_nl s (f - 1) hb).1]
    have : f - 1 + 1 = f := by omega
    rw [this]
    exact hit_self s f
/-! ### ref.Of -/
theorem rof_loop (s : ByteArray) (off f : Nat) (hs : s.size ≤ 30000) (ho : off ≤ s.size) (hf : Lf s off f) : ∀ (d i line col : Nat), off - i ≤ d → i ≤ off → hit s i off → line ≤ i → col ≤ 2 * i →
    Ev (fun k => marginaliaref02_Of.l0 k s (off : Int) (i : Int) (line : Int) (col : Int)) (if f ≤ i then ((line : Int), ((wk s off i col).2 : Int)) else (((line + (nls s off - nls s i) : Nat) : Int), ((wk s off f 0).2 : Int))) := by
  intro d
  induction d with
  | zero =>
    intro i line col hd hi hh hl hc
    obtain rfl : i = off := by omega
    refine Ev.shift ?_
    simp only [marginaliaref02_Of.l0]
    refine Ev.neg (by omega) ?_
    rw [if_pos hf.1, wk_ge _ _ _ _ (by omega)]
    exact Ev.now _
  | succ d ih =>
    intro i line col hd hi hh hl hc
    by_cases h : i < off
    · have hp := dn_pos s i
      have hw := dw_pos s i
      have hle := dn_le s i (by omega)
      have hh' := (hit_lt s i off h).1 hh
      have hio := hit_le s _ _ hh'
      refine Ev.shift ?_
      simp only [marginaliaref02_Of.l0]
      refine Ev.pos (by omega) (Ev.bind (Char_ev s i (by omega) (by omega)) ?_)
      rw [bt_B s i (by omega), w64 (n := (i : Int) + (dn s i : Int)) (by omega) (by omega), w64 (n := (line : Int) + 1) (by omega) (by omega), w64 (n := (col : Int) + (dw s i : Int)) (by omega) (by omega)]
      refine Ev.pos (by omega) (Ev.pos (by omega) ?_)
      have hn := nls_dn s i (by omega)
      by_cases hb : B s i = 10
      · have hd1 := dn_nl s i hb
        have hfi : ¬ f ≤ i := fun g => hf.2.1 i g h hb
        rw [if_neg hfi]
        have := ih (i + dn s i) (line + 1) 0 (by omega) (by omega) hh' (by omega) (by omega)
        refine Ev.pos (by omega) ?_
        rw [if_pos hb] at hn
        have mono : nls s (i + dn s i) ≤ nls s off := by
          unfold nls
          have : (s.data.toList.take off).take (i + dn s i) = s.data.toList.take (i + dn s i) := by rw [List.take_take]; congr 1; omega
          rw [← this]
          exact List.Sublist.count_le _ (List.take_sublist _ _)
        by_cases hf2 : f ≤ i + dn s i
        · rw [if_pos hf2] at this
          have e : f = i + dn s i := by omega
          have z := nls_range s (i + dn s i) (off - (i + dn s i)) (by omega) (fun j h1 h2 => hf.2.1 j (by omega) (by omega))
          rw [show i + dn s i + (off - (i + dn s i)) = off by omega] at z
          rw [e, show line + (nls s off - nls s i) = line + 1 by omega]
          exact_mod_cast this
        · rw [if_neg hf2] at this
          rw [show line + (nls s off - nls s i) = line + 1 + (nls s off - nls s (i + dn s i)) by omega]
          exact_mod_cast this
      · have := ih (i + dn s i) line (col + dw s i) (by omega) (by omega) hh' (by omega) (by omega)
        refine Ev.neg (by omega) ?_
        rw [if_neg hb] at hn
        have hff : f ≤ i + dn s i ↔ f ≤ i := by
          constructor
          · intro g
            rcases hf.2.2 with h0 | ⟨h0, hb1⟩
            · omega
            · rcases Nat.lt_or_ge i f with g2 | g2
              · exfalso
                by_cases e : f - 1 = i
                · rw [e] at hb1; exact hb hb1
                · exact dn_in s i (f - 1) (by omega) (by omega) hb1
              · exact g2
          · omega
        by_cases hfi : f ≤ i
        · rw [if_pos (hff.2 hfi)] at this
          rw [if_pos hfi, wk_lt _ _ _ _ h]
          exact_mod_cast this
        · rw [if_neg (fun g => hfi (hff.1 g))] at this
          rw [if_neg hfi, ← Nat.add_zero (nls s i), ← hn]
          exact_mod_cast this
    · obtain rfl : i = off := by omega
      refine Ev.shift ?_
      simp only [marginaliaref02_Of.l0]
      refine Ev.neg (by omega) ?_
      rw [if_pos hf.1, wk_ge _ _ _ _ (by omega)]
      exact Ev.now _
theorem nls_zero (s : ByteArray) : nls s 0 = 0 := by simp [nls]
theorem rof_ev (s : ByteArray) (off f : Nat) (hs : s.size ≤ 30000) (ho : off ≤ s.size) (hf : Lf s off f) (hh : hit s 0 off) : Ev (fun k => marginaliaref02_Of.f k s (off : Int)) ((nls s off : Int), ((wk s off f 0).2 : Int)) := by
  unfold marginaliaref02_Of.f
  have := rof_loop s off f hs ho hf off 0 0 0 (by omega) (by omega) hh (by omega) (by omega)
  by_cases h0 : f ≤ 0
  · obtain rfl : f = 0 := by omega
    rw [if_pos h0] at this
    have z := nls_range s 0 off (by omega) (fun j h1 h2 => hf.2.1 j h1 (by omega))
    rw [Nat.zero_add, nls_zero] at z
    rw [z]
    exact this
  · rw [if_neg h0, nls_zero, Nat.sub_zero, Nat.zero_add] at this
    exact this
end Go.Proofs.YtbioehoeoalalaaDoor.P

namespace Go.Proofs.YtbioehoeoalalaaDoor.P
open Go.RowKit Go.Proofs.YtbioehoeoalalaaDoorW.PrintWords Go.Proofs.YtbioehoeoalalaaDoorW.PrintLast Go.Proofs.YtbioehoeoalalaaDoorW.PrintMore
instance (s : ByteArray) (i j : Nat) : Decidable (hit s i j) := by unfold hit; infer_instance
/-! ### place.Of -/
theorem Of_loop (s : ByteArray) (off : Nat) (line : Int) (hs : s.size ≤ 30000) (ho : off ≤ s.size) : ∀ (d i col : Nat), off - i ≤ d → i ≤ s.size → col ≤ 2 * i →
    Ev (fun k => place_Of.l0 k s (off : Int) (i : Int) line (col : Int)) (if hit s i off then (line, ((wk s off i col).2 : Int), 0) else (0, 0, 2)) := by
  intro d
  induction d with
  | zero =>
    intro i col hd hi hc
    refine Ev.shift ?_
    simp only [place_Of.l0]
    refine Ev.neg (by omega) ?_
    by_cases e : i = off
    · subst e
      rw [if_pos (hit_self s i), wk_ge _ _ _ _ (by omega)]
      exact Ev.neg (by omega) (Ev.now _)
    · have hn : ¬ hit s i off := fun h => by have := hit_le s i off h; omega
      rw [if_neg hn]
      exact Ev.pos (by omega) (Ev.now _)
  | succ d ih =>
    intro i col hd hi hc
    by_cases h : i < off
    · have hp := dn_pos s i
      have hw := dw_pos s i
      have hle := dn_le s i (by omega)
      refine Ev.shift ?_
      simp only [place_Of.l0]
      have hst := step_cut s i s.size (by omega) (Nat.le_refl _) (.inl rfl)
      have e0 : ((i : Int)).toNat = i := rfl
      refine Ev.pos (by omega) (Ev.pos (by omega) (Ev.pos (by omega) ?_))
      rw [e0]
      refine Ev.bind1 hst ?_
      simp only
      rw [w64 (n := (i : Int) + (dn s i : Int)) (by omega) (by omega), w64 (n := (col : Int) + (dw s i : Int)) (by omega) (by omega)]
      have := ih (i + dn s i) (col + dw s i) (by omega) hle (by omega)
      rw [wk_lt _ _ _ _ h]
      simp only [hit_lt s i off h]
      exact_mod_cast this
    · refine Ev.shift ?_
      simp only [place_Of.l0]
      refine Ev.neg (by omega) ?_
      by_cases e : i = off
      · subst e
        rw [if_pos (hit_self s i), wk_ge _ _ _ _ (by omega)]
        exact Ev.neg (by omega) (Ev.now _)
      · have hn : ¬ hit s i off := fun h => by have := hit_le s i off h; omega
        rw [if_neg hn]
        exact Ev.pos (by omega) (Ev.now _)
theorem last_Lf (s : ByteArray) (off : Nat) (ho : off ≤ s.size) : ∃ f, Lf s off f ∧ Lib.lastIndexByte (s.extract 0 off) 10 = (f : Int) - 1 := by
  have hz : (s.extract 0 off).size = off := by rw [ByteArray.size_extract]; omega
  have hB : ∀ j, j < off → ((s.extract 0 off).data[j]!).toNat = B s j := by
    intro j hj
    have h1 : j < s.data.toList.length := by rw [Ut.size_data]; omega
    rw [← get_B s j h1]
    have h2 : j < (s.extract 0 off).data.size := by
      have : (s.extract 0 off).data.size = (s.extract 0 off).size := rfl
      omega
    rw [getElem!_pos _ j h2]
    simp [ByteArray.data_extract]
  have h := Lib.lastIdx_spec (s.extract 0 off) 10 (s.extract 0 off).size
  rw [hz] at h
  unfold Lib.lastIndexByte
  rw [hz]
  rcases h with ⟨h1, h2⟩ | ⟨i, h1, h2, h3, h4⟩
  · exact ⟨0, ⟨by omega, fun j _ hj e => h2 j hj (by rw [hB j hj, e]; rfl), .inl rfl⟩, by rw [h1]; rfl⟩
  · refine ⟨i + 1, ⟨by omega, fun j hj hj2 e => h4 j (by omega) hj2 (by rw [hB j hj2, e]; rfl), .inr ⟨by omega, ?_⟩⟩, by rw [h2]; omega⟩
    have := hB i h1
    have e : i + 1 - 1 = i := rfl
    rw [e]
    omega
theorem Of_ev (s : ByteArray) (off f : Nat) (hs : s.size ≤ 20000) (ho : off ≤ s.size) (hf : Lf s off f) : Ev (fun k => place_Of.f k s (off : Int)) (if hit s 0 off then ((nls s off : Int), ((wk s off f 0).2 : Int), 0) else (0, 0, 2)) := by
  obtain ⟨f', hf', hl⟩ := last_Lf s off ho
  have e : f = f' := by
    rcases Nat.lt_trichotomy f f' with h | h | h
    · exfalso
      rcases hf'.2.2 with h0 | ⟨h0, hb⟩
      · omega
      · exact hf.2.1 (f' - 1) (by omega) (by have := hf'.1; omega) hb
    · exact h
    · exfalso
      rcases hf.2.2 with h0 | ⟨h0, hb⟩
      · omega
      · exact hf'.2.1 (f - 1) (by omega) (by have := hf.1; omega) hb
  subst e
  unfold place_Of.f
  refine Ev.neg (by omega) (Ev.neg (by omega) ?_)
  rw [decide_eq_false (by omega : ¬ (off : Int) > (s.size : Int))]
  refine Ev.shift ?_
  simp only [place_Of.j0]
  have e0 : ((off : Int)).toNat = off := rfl
  rw [e0]
  refine Ev.neg (by decide) (Ev.pos (by omega) (Ev.pos (by omega) ?_))
  have hz : (s.extract 0 off).size = off := by rw [ByteArray.size_extract]; omega
  refine Ev.bind1 (a := (f : Int) - 1) (by unfold strings_LastIndexByte.f; rw [if_pos (by omega), hl]) ?_
  refine Ev.bind1 (a := (nls s off : Int)) ?_ ?_
  · unfold strings_Count.f
    rw [if_pos rfl]
    congr 1
    unfold Lib.countByte nls
    simp [ByteArray.data_extract, List.extract_eq_take_drop]
  · rw [w64 (n := (f : Int) - 1 + 1) (by omega) (by have := hf.1; omega), show (f : Int) - 1 + 1 = f by omega]
    have := Of_loop s off (nls s off : Int) (by omega) ho off f 0 (by omega) (by have := hf.1; omega) (by omega)
    simp only [← hit_through s 0 f off hf.1 (Lf_hit hf ho)] at this
    exact this
theorem Lf_ex (s : ByteArray) (off : Nat) (ho : off ≤ s.size) : ∃ f, Lf s off f := by
  obtain ⟨f, hf, _⟩ := last_Lf s off ho
  exact ⟨f, hf⟩
theorem Of_bad (s : ByteArray) (off : Int) (hs : s.size ≤ 20000) (h : off < 0 ∨ off > s.size) : Ev (fun k => place_Of.f k s off) (0, 0, 2) := by
  unfold place_Of.f
  refine Ev.neg (by omega) ?_
  by_cases h0 : off < 0
  · refine Ev.pos h0 (Ev.shift ?_)
    simp only [place_Of.j0]
    exact Ev.pos (by simp) (Ev.now _)
  · refine Ev.neg h0 ?_
    rw [decide_eq_true (by omega : off > (s.size : Int))]
    refine Ev.shift ?_
    simp only [place_Of.j0]
    exact Ev.pos (by simp) (Ev.now _)
theorem Of_long (s : ByteArray) (off : Int) (hs : s.size > 20000) : Ev (fun k => place_Of.f k s off) (0, 0, 3) := by
  unfold place_Of.f
  exact Ev.pos (by omega) (Ev.now _)
/-! ### ref.Begins -/
theorem Begins_loop (s : ByteArray) (hs : s.size ≤ 30000) : ∀ (d i : Nat) (acc : List Bool), s.size - i ≤ d → i ≤ s.size → acc.length = s.size + 1 →
    ∃ l : List Bool, Ev (fun k => marginaliaref02_Begins.l0 k s acc (i : Int)) l ∧ l.length = s.size + 1 ∧ ∀ off, off ≤ s.size → l[off]? = some (acc.getD off false || decide (hit s i off)) := by
  intro d
  have endc : ∀ (i : Nat) (acc : List Bool), i = s.size → acc.length = s.size + 1 →
    ∃ l : List Bool, Ev (fun k => marginaliaref02_Begins.l0 k s acc (i : Int)) l ∧ l.length = s.size + 1 ∧ ∀ off, off ≤ s.size → l[off]? = some (acc.getD off false || decide (hit s i off)) := by
    intro i acc hi ha
    refine ⟨acc.set s.size true, ?_, by simp [ha], fun off ho => ?_⟩
    · refine Ev.shift ?_
      simp only [marginaliaref02_Begins.l0]
      exact Ev.neg (by omega) (Ev.pos (by omega) (Ev.pos (by omega) (Ev.now _)))
    · rw [List.getElem?_set]
      by_cases e : s.size = off
      · subst e
        rw [hi]
        simp [ha, hit_self]
      · rw [if_neg e, decide_eq_false (fun h => by have := hit_le s i off h; omega)]
        simp [List.getD_eq_getElem?_getD, List.getElem?_eq_getElem (show off < acc.length by omega)]
  induction d with
  | zero => intro i acc hd hi ha; exact endc i acc (by omega) ha
  | succ d ih =>
    intro i acc hd hi ha
    by_cases h : i < s.size
    · have hp := dn_pos s i
      have hle := dn_le s i h
      obtain ⟨l, h1, h2, h3⟩ := ih (i + dn s i) (acc.set i true) (by omega) hle (by simp [ha])
      refine ⟨l, ?_, h2, fun off ho => ?_⟩
      · refine Ev.shift ?_
        simp only [marginaliaref02_Begins.l0]
        refine Ev.pos (by omega) (Ev.pos (by omega) (Ev.pos (by omega) (Ev.bind (Char_ev s i (by omega) h) ?_)))
        simp only
        rw [w64 (n := (i : Int) + (dn s i : Int)) (by omega) (by omega)]
        exact_mod_cast h1
      · rw [h3 off ho]
        congr 1
        by_cases e : i = off
        · subst e
          rw [decide_eq_true (hit_self s i), List.getD_eq_getElem?_getD, List.getElem?_set]
          simp [ha, h]
          left
          rw [if_pos (by omega)]
          rfl
        · have e1 : (acc.set i true).getD off false = acc.getD off false := by
            rw [List.getD_eq_getElem?_getD, List.getD_eq_getElem?_getD, List.getElem?_set_ne e]
          rw [e1]
          congr 1
          by_cases g : i < off
          · simp only [hit_lt s i off g]
          · rw [decide_eq_false (fun h => by have := hit_le s _ off h; omega), decide_eq_false (fun h => by have := hit_le s _ off h; omega)]
    · exact endc i acc (by omega) ha
theorem Begins_ev (s : ByteArray) (hs : s.size ≤ 30000) : ∃ l : List Bool, Ev (fun k => marginaliaref02_Begins.f k s) l ∧ l.length = s.size + 1 ∧ ∀ off : Nat, off ≤ s.size → rdOf false l (off : Int) = decide (hit s 0 off) := by
  have e : wrap64 ((s.size : Int) + 1) = ((s.size + 1 : Nat) : Int) := by rw [w64 (by omega) (by omega)]; omega
  obtain ⟨l, h1, h2, h3⟩ := Begins_loop s hs s.size 0 (List.replicate (s.size + 1) false) (by omega) (by omega) (by simp)
  refine ⟨l, ?_, h2, fun off ho => ?_⟩
  · unfold marginaliaref02_Begins.f
    rw [e]
    refine Ev.pos (by omega) (Ev.pos (by omega) ?_)
    exact h1
  · have := h3 off ho
    unfold rdOf
    have e2 : ((off : Int)).toNat = off := rfl
    rw [e2, List.getD_eq_getElem?_getD, this]
    simp [List.getD_eq_getElem?_getD, List.getElem?_replicate]
    rw [if_pos (by omega)]
    intro h
    cases h
end Go.Proofs.YtbioehoeoalalaaDoor.P

namespace Go.Proofs.YtbioehoeoalalaaDoor.P
open Go.RowKit Go.Proofs.YtbioehoeoalalaaDoorW.PrintWords Go.Proofs.YtbioehoeoalalaaDoorW.PrintLast Go.Proofs.YtbioehoeoalalaaDoorW.PrintMore
/-- A place at which a line ends. -/
def Stop (s : ByteArray) (e : Nat) : Prop := e ≤ s.size ∧ (e = s.size ∨ B s e = 10)
theorem Stop.next {s : ByteArray} {e i : Nat} (h : Stop s e) (hi : i < e) : i + dn s i ≤ e := by
  rcases Nat.lt_or_ge e (i + dn s i) with h' | h'
  · exfalso
    rcases h.2 with h2 | h2
    · have := dn_le s i (by have := h.1; omega); omega
    · exact dn_in s i e hi h' h2
  · exact h'
/-- find: where it stops, and the column there. -/
def fnd (s : ByteArray) (e : Nat) (col : Int) : Nat → Nat → Nat → Nat × Nat
  | 0, i, c => (i, c)
  | d + 1, i, c => if i < e ∧ (c : Int) < col then (if (c + dw s i : Int) > col then (i, c) else fnd s e col d (i + dn s i) (c + dw s i)) else (i, c)
theorem find_loop (s : ByteArray) (e : Nat) (col f : Int) (hs : s.size ≤ 30000) (he : Stop s e) : ∀ (d i c : Nat), e - i ≤ d → i ≤ e → c ≤ 2 * i →
    Ev (fun k => place_find.l0 k s col (i : Int) (c : Int) f (e : Int)) (((fnd s e col d i c).1 : Int), ((((fnd s e col d i c).2 : Nat) : Int) == col)) := by
  have hes := he.1
  have fin : ∀ (i c : Nat) (b : Bool), b = false → Ev (fun k => place_find.j1 k s col (i : Int) (c : Int) b f (e : Int)) ((i : Int), ((c : Int) == col)) := by
    intro i c b hb
    refine Ev.shift ?_
    simp only [place_find.j1]
    exact Ev.neg (by simp [hb]) (Ev.now _)
  intro d
  induction d with
  | zero =>
    intro i c hd hi hc
    refine Ev.shift ?_
    simp only [place_find.l0, fnd]
    exact Ev.neg (by omega) (fin i c false rfl)
  | succ d ih =>
    intro i c hd hi hc
    refine Ev.shift ?_
    simp only [place_find.l0, fnd]
    by_cases h : i < e
    · refine Ev.pos (by omega) ?_
      by_cases h2 : (c : Int) < col
      · rw [decide_eq_true h2, if_pos ⟨h, h2⟩]
        have hp := dn_pos s i
        have hw := dw_pos s i
        have hle := he.next h
        refine Ev.shift ?_
        simp only [place_find.j1]
        have e0 : ((i : Int)).toNat = i := rfl
        have e1 : ((e : Int)).toNat = e := rfl
        rw [e0, e1]
        refine Ev.pos (by simp) (Ev.pos (by omega) (Ev.pos (by omega) (Ev.pos (by omega) (Ev.bind1 (step_cut s i e h hes he.2) ?_))))
        simp only
        rw [w64 (n := (i : Int) + (dn s i : Int)) (by omega) (by omega), w64 (n := (c : Int) + (dw s i : Int)) (by omega) (by omega)]
        by_cases h3 : (c + dw s i : Int) > col
        · rw [if_pos h3, show ((((i, c) : Nat × Nat).2 : Int) == col) = false from beq_eq_false_iff_ne.mpr (by simp only; omega)]
          exact Ev.pos h3 (Ev.now _)
        · rw [if_neg h3]
          refine Ev.neg h3 ?_
          have := ih (i + dn s i) (c + dw s i) (by omega) hle (by omega)
          exact_mod_cast this
      · rw [decide_eq_false h2, if_neg (fun g => h2 g.2)]
        exact fin i c false rfl
    · rw [if_neg (fun g => h g.1)]
      exact Ev.neg (by omega) (fin i c false rfl)
/-- ref.Offset's loop. -/
def rof (s : ByteArray) (e : Nat) (col : Int) : Nat → Nat → Nat → Nat × Nat
  | 0, i, c => (i, c)
  | d + 1, i, c => if i < e ∧ (c : Int) < col then rof s e col d (i + dn s i) (c + dw s i) else (i, c)
theorem rof_stop (s : ByteArray) (e : Nat) (col : Int) (d i c : Nat) (h : ¬ (c : Int) < col) : rof s e col d i c = (i, c) := by
  cases d with
  | zero => rfl
  | succ d => simp only [rof]; rw [if_neg (fun g => h g.2)]
/-- The two come to the column alike. -/
theorem fnd_rof (s : ByteArray) (e : Nat) (col : Int) : ∀ (d i c : Nat), (((fnd s e col d i c).2 : Int) = col ↔ ((rof s e col d i c).2 : Int) = col) ∧ (((fnd s e col d i c).2 : Int) = col → (fnd s e col d i c).1 = (rof s e col d i c).1) := by
  intro d
  induction d with
  | zero => intro i c; exact ⟨Iff.rfl, fun _ => rfl⟩
  | succ d ih =>
    intro i c
    simp only [fnd, rof]
    by_cases h : i < e ∧ (c : Int) < col
    · rw [if_pos h, if_pos h]
      by_cases h3 : (c + dw s i : Int) > col
      · rw [if_pos h3, rof_stop s e col d _ _ (by omega)]
        simp only
        have := h.2
        constructor
        · constructor <;> intro g <;> omega
        · intro g; omega
      · rw [if_neg h3]
        exact ih _ _
    · rw [if_neg h, if_neg h]
      exact ⟨Iff.rfl, fun _ => rfl⟩
theorem rof_loop2 (s : ByteArray) (l : List Sp) (line e f : Nat) (col : Int) (hs : s.size ≤ 30000) (he : Stop s e) (hl : line < l.length) (hx : l[line]? = some ⟨(f : Int), (e : Int)⟩) : ∀ (d i c : Nat), e - i ≤ d → i ≤ e → c ≤ 2 * i →
    Ev (fun k => marginaliaref02_Offset.l0 k s l (i : Int) (c : Int) (line : Int) col) (((rof s e col d i c).1 : Int), ((((rof s e col d i c).2 : Nat) : Int) == col)) := by
  have hes := he.1
  have hrd : rd_T39 l (line : Int) = ⟨(f : Int), (e : Int)⟩ := by
    unfold rd_T39
    have e2 : ((line : Int)).toNat = line := rfl
    rw [e2, List.getD_eq_getElem?_getD, hx]
    rfl
  intro d
  induction d with
  | zero =>
    intro i c hd hi hc
    refine Ev.shift ?_
    simp only [marginaliaref02_Offset.l0, rof, hrd]
    exact Ev.pos (by omega) (Ev.pos (by omega) (Ev.neg (by omega) (Ev.now _)))
  | succ d ih =>
    intro i c hd hi hc
    refine Ev.shift ?_
    simp only [marginaliaref02_Offset.l0, rof, hrd]
    refine Ev.pos (by omega) (Ev.pos (by omega) ?_)
    by_cases h : i < e
    · refine Ev.pos (by omega) ?_
      by_cases h2 : (c : Int) < col
      · rw [if_pos ⟨h, h2⟩]
        have hp := dn_pos s i
        have hw := dw_pos s i
        have hle := he.next h
        refine Ev.pos h2 (Ev.bind (Char_ev s i (by omega) (by omega)) ?_)
        simp only
        rw [w64 (n := (i : Int) + (dn s i : Int)) (by omega) (by omega), w64 (n := (c : Int) + (dw s i : Int)) (by omega) (by omega)]
        have := ih (i + dn s i) (c + dw s i) (by omega) hle (by omega)
        exact_mod_cast this
      · rw [if_neg (fun g => h2 g.2)]
        exact Ev.neg h2 (Ev.now _)
    · rw [if_neg (fun g => h g.1)]
      exact Ev.neg (by omega) (Ev.now _)
/-- ref.Near's loop is find, of a column that is not below nought. -/
theorem rnear_loop (s : ByteArray) (l : List Sp) (line e f : Nat) (col : Int) (hs : s.size ≤ 30000) (he : Stop s e) (hl : line < l.length) (hx : l[line]? = some ⟨(f : Int), (e : Int)⟩) : ∀ (d i c : Nat), e - i ≤ d → i ≤ e → c ≤ 2 * i → (c = 0 ∨ (c : Int) ≤ col) →
    Ev (fun k => marginaliaref02_Near.l0 k s l (i : Int) (c : Int) (line : Int) col) (((fnd s e (if col < 0 then 0 else col) d i c).1 : Int)) := by
  have hes := he.1
  have hrd : rd_T39 l (line : Int) = ⟨(f : Int), (e : Int)⟩ := by
    unfold rd_T39
    have e2 : ((line : Int)).toNat = line := rfl
    rw [e2, List.getD_eq_getElem?_getD, hx]
    rfl
  intro d
  induction d with
  | zero =>
    intro i c hd hi hc hcc
    refine Ev.shift ?_
    simp only [marginaliaref02_Near.l0, fnd, hrd]
    exact Ev.pos (by omega) (Ev.pos (by omega) (Ev.neg (by omega) (Ev.now _)))
  | succ d ih =>
    intro i c hd hi hc hcc
    refine Ev.shift ?_
    simp only [marginaliaref02_Near.l0, fnd, hrd]
    refine Ev.pos (by omega) (Ev.pos (by omega) ?_)
    by_cases h : i < e
    · have hp := dn_pos s i
      have hw := dw_pos s i
      have hle := he.next h
      refine Ev.pos (by omega) (Ev.bind (Char_ev s i (by omega) (by omega)) ?_)
      simp only
      rw [w64 (n := (i : Int) + (dn s i : Int)) (by omega) (by omega), w64 (n := (c : Int) + (dw s i : Int)) (by omega) (by omega)]
      by_cases hneg : col < 0
      · rw [if_pos hneg]
        have e0 : c = 0 := by omega
        rw [if_neg (by omega)]
        exact Ev.pos (by omega) (Ev.now _)
      · rw [if_neg hneg]
        by_cases h2 : (c : Int) < col
        · rw [if_pos ⟨h, h2⟩]
          by_cases h3 : (c + dw s i : Int) > col
          · rw [if_pos h3]
            exact Ev.pos h3 (Ev.now _)
          · rw [if_neg h3]
            refine Ev.neg h3 ?_
            have := ih (i + dn s i) (c + dw s i) (by omega) hle (by omega) (by right; push_cast; omega)
            rw [if_neg hneg] at this
            exact_mod_cast this
        · rw [if_neg (fun g => h2 g.2)]
          exact Ev.pos (by omega) (Ev.now _)
    · rw [if_neg (fun g => h g.1)]
      exact Ev.neg (by omega) (Ev.now _)
/-! ### the lines' spans -/
theorem sl_form (s : ByteArray) : ∀ (r : List UInt8) (f i : Nat), s.data.toList.drop i = r → f ≤ i → i ≤ s.size → ∀ x ∈ sl r f i, ∃ a e : Nat, x = ⟨(a : Int), (e : Int)⟩ ∧ a ≤ e ∧ Stop s e ∧ f ≤ a := by
  have hz := Ut.size_data s
  intro r
  induction r with
  | nil =>
    intro f i hd hf hi x hx
    have : s.size ≤ i := by
      rcases Nat.lt_or_ge i s.data.toList.length with h | h
      · rw [List.drop_eq_getElem_cons h] at hd; cases hd
      · omega
    simp only [sl, List.mem_singleton] at hx
    exact ⟨f, i, hx, hf, ⟨hi, .inl (by omega)⟩, Nat.le_refl _⟩
  | cons c r ih =>
    intro f i hd hf hi x hx
    have hlt : i < s.data.toList.length := by
      rcases Nat.lt_or_ge i s.data.toList.length with h | h
      · exact h
      · rw [List.drop_of_length_le h] at hd; cases hd
    rw [List.drop_eq_getElem_cons hlt] at hd
    injection hd with e1 e2
    simp only [sl] at hx
    by_cases h : c = 10
    · rw [if_pos h] at hx
      rcases List.mem_cons.1 hx with hx | hx
      · refine ⟨f, i, hx, hf, ⟨hi, .inr ?_⟩, Nat.le_refl _⟩
        rw [← get_B s i hlt, e1, h]
        rfl
      · obtain ⟨a, e, h1, h2, h3, h4⟩ := ih (i + 1) (i + 1) e2 (Nat.le_refl _) (by omega) x hx
        exact ⟨a, e, h1, h2, h3, by omega⟩
    · rw [if_neg h] at hx
      exact ih f (i + 1) e2 (by omega) (by omega) x hx
theorem lns_form (s : ByteArray) (i : Nat) (h : i < (lns s).length) : ∃ a e : Nat, (lns s)[i]? = some ⟨(a : Int), (e : Int)⟩ ∧ a ≤ e ∧ Stop s e := by
  obtain ⟨a, e, h1, h2, h3, _⟩ := sl_form s s.data.toList 0 0 rfl (by omega) (by omega) _ (List.getElem_mem h)
  exact ⟨a, e, by rw [List.getElem?_eq_getElem h, h1], h2, h3⟩
end Go.Proofs.YtbioehoeoalalaaDoor.P

namespace Go.Proofs.YtbioehoeoalalaaDoor.P
open Go.RowKit Go.Proofs.YtbioehoeoalalaaDoorW.PrintWords Go.Proofs.YtbioehoeoalalaaDoorW.PrintLast Go.Proofs.YtbioehoeoalalaaDoorW.PrintMore
theorem alive_ev : Ev (fun k => marginalialaw02_alive.f k) true := Ev.of (fun k => marginalialaw02_alive.mono k) (k := 30) (by kernel_rfl)
def short (s : ByteArray) : ByteArray := s.extract 0 (min s.size 20001)
theorem mn_nat (a b : Nat) : mn (a : Int) (b : Int) = ((min a b : Nat) : Int) := by unfold mn; (repeat' split) <;> omega
theorem Short_eq (s : ByteArray) : marginaliaref01_Short.f s = some (short s) := by
  have h : mn (s.size : Int) 20001 = ((min s.size 20001 : Nat) : Int) := mn_nat s.size 20001
  unfold marginaliaref01_Short.f
  rw [h, if_pos (by omega), if_pos (by omega)]
  simp [short]
theorem short_size (s : ByteArray) : (short s).size ≤ 20001 := by
  unfold short
  rw [ByteArray.size_extract]
  omega
/-- The offset with a place, if there is one. -/
def offs (s : ByteArray) (line col : Int) : Option Nat :=
  if line < 0 ∨ line ≥ ((lns s).length : Int) ∨ col < 0 then none
  else
    let x := (lns s).getD line.toNat ⟨0, 0⟩
    let r := fnd s x.f1.toNat col (x.f1.toNat - x.f0.toNat) x.f0.toNat 0
    if (r.2 : Int) = col then some r.1 else none
def ans (o : Option Nat) : Int × Int := match o with | some a => (a, 0) | none => (0, 2)
theorem Offset_ev (s : ByteArray) (line col : Int) (hs : s.size ≤ 20000) : Ev (fun k => place_Offset.f k s line col) (ans (offs s line col)) := by
  unfold place_Offset.f offs
  refine Ev.neg (by omega) (Ev.bind (lines_ev s (by omega)) ?_)
  have J : ∀ b : Bool, b = true → Ev (fun k => place_Offset.j0 k s (lns s) b line col) (0, 2) := by
    intro b hb
    refine Ev.shift ?_
    simp only [place_Offset.j0]
    exact Ev.pos (by simp [hb]) (Ev.now _)
  by_cases h0 : line < 0
  · rw [if_pos (.inl h0)]
    exact Ev.pos h0 (J true rfl)
  · refine Ev.neg h0 ?_
    by_cases h1 : line ≥ ((lns s).length : Int)
    · rw [if_pos (.inr (.inl h1))]
      exact Ev.pos h1 (J true rfl)
    · refine Ev.neg h1 ?_
      by_cases h2 : col < 0
      · rw [if_pos (.inr (.inr h2)), decide_eq_true h2]
        exact J true rfl
      · rw [if_neg (by omega), decide_eq_false h2]
        obtain ⟨n, rfl⟩ : ∃ n : Nat, line = n := ⟨line.toNat, by omega⟩
        obtain ⟨a, e, hx, hae, hst⟩ := lns_form s n (by omega)
        have hg : (lns s).getD n ⟨0, 0⟩ = ⟨(a : Int), (e : Int)⟩ := by rw [List.getD_eq_getElem?_getD, hx]; rfl
        have hrd : rd_T39 (lns s) (n : Int) = ⟨(a : Int), (e : Int)⟩ := by
          unfold rd_T39
          have e2 : ((n : Int)).toNat = n := rfl
          rw [e2, List.getD_eq_getElem?_getD, hx]
          rfl
        have e3 : ((n : Int)).toNat = n := rfl
        simp only [e3, hg]
        have e4 : ((a : Int)).toNat = a := rfl
        have e5 : ((e : Int)).toNat = e := rfl
        simp only [e4, e5]
        refine Ev.shift ?_
        simp only [place_Offset.j0]
        refine Ev.neg (by decide) (Ev.pos (by omega) (Ev.pos (by omega) ?_))
        rw [hrd]
        simp only
        have hf := find_loop s e col a (by omega) hst (e - a) a 0 (Nat.le_refl _) hae (by omega)
        refine Ev.bind hf ?_
        simp only
        by_cases h3 : ((fnd s e col (e - a) a 0).2 : Int) = col
        · rw [if_pos h3]
          refine Ev.pos (by simpa using h3) (Ev.now _)
        · rw [if_neg h3]
          refine Ev.neg (by simpa using h3) (Ev.now _)
theorem rOffset_ev (s : ByteArray) (line col : Int) (hs : s.size ≤ 20001) : ∃ x : Int, Ev (fun k => marginaliaref02_Offset.f k s line col) (match offs s line col with | some a => ((a : Int), true) | none => (x, false)) := by
  unfold marginaliaref02_Offset.f offs
  have L := rlines_ev s (by omega)
  have J : ∀ b : Bool, b = true → Ev (fun k => marginaliaref02_Offset.j0 k s (lns s) b line col) (0, false) := by
    intro b hb
    refine Ev.shift ?_
    simp only [marginaliaref02_Offset.j0]
    exact Ev.pos (by simp [hb]) (Ev.now _)
  by_cases h0 : line < 0
  · rw [if_pos (.inl h0)]
    exact ⟨0, Ev.bind L (Ev.pos h0 (J true rfl))⟩
  · by_cases h1 : line ≥ ((lns s).length : Int)
    · rw [if_pos (.inr (.inl h1))]
      exact ⟨0, Ev.bind L (Ev.neg h0 (Ev.pos h1 (J true rfl)))⟩
    · by_cases h2 : col < 0
      · rw [if_pos (.inr (.inr h2))]
        refine ⟨0, Ev.bind L (Ev.neg h0 (Ev.neg h1 ?_))⟩
        rw [decide_eq_true h2]
        exact J true rfl
      · rw [if_neg (by omega)]
        obtain ⟨n, rfl⟩ : ∃ n : Nat, line = n := ⟨line.toNat, by omega⟩
        obtain ⟨a, e, hx, hae, hst⟩ := lns_form s n (by omega)
        have hg : (lns s).getD n ⟨0, 0⟩ = ⟨(a : Int), (e : Int)⟩ := by rw [List.getD_eq_getElem?_getD, hx]; rfl
        have hrd : rd_T39 (lns s) (n : Int) = ⟨(a : Int), (e : Int)⟩ := by
          unfold rd_T39
          have e2 : ((n : Int)).toNat = n := rfl
          rw [e2, List.getD_eq_getElem?_getD, hx]
          rfl
        have e3 : ((n : Int)).toNat = n := rfl
        simp only [e3, hg]
        have e4 : ((a : Int)).toNat = a := rfl
        have e5 : ((e : Int)).toNat = e := rfl
        simp only [e4, e5]
        have hr := rof_loop2 s (lns s) n e a col (by omega) hst (by omega) hx (e - a) a 0 (Nat.le_refl _) hae (by omega)
        obtain ⟨g1, g2⟩ := fnd_rof s e col (e - a) a 0
        refine ⟨((rof s e col (e - a) a 0).1 : Int), Ev.bind L (Ev.neg h0 (Ev.neg h1 ?_))⟩
        rw [decide_eq_false h2]
        refine Ev.shift ?_
        simp only [marginaliaref02_Offset.j0]
        refine Ev.neg (by decide) (Ev.pos (by omega) (Ev.pos (by omega) ?_))
        rw [hrd]
        simp only
        by_cases h3 : ((fnd s e col (e - a) a 0).2 : Int) = col
        · rw [if_pos h3]
          have q := g1.1 h3
          rw [show ((((rof s e col (e - a) a 0).2 : Nat) : Int) == col) = true from beq_iff_eq.mpr q, ← g2 h3] at hr
          exact hr
        · rw [if_neg h3]
          have q : ¬ ((rof s e col (e - a) a 0).2 : Int) = col := fun h => h3 (g1.2 h)
          rw [show ((((rof s e col (e - a) a 0).2 : Nat) : Int) == col) = false from beq_eq_false_iff_ne.mpr q] at hr
          exact hr
def near (s : ByteArray) (line col : Int) : Nat :=
  if line < 0 then 0 else if line ≥ ((lns s).length : Int) then s.size
  else
    let x := (lns s).getD line.toNat ⟨0, 0⟩
    (fnd s x.f1.toNat (if col < 0 then 0 else col) (x.f1.toNat - x.f0.toNat) x.f0.toNat 0).1
theorem mx0 (c : Int) : mx c 0 = if c < 0 then 0 else c := rfl
theorem Near_ev (s : ByteArray) (line col : Int) (hs : s.size ≤ 20000) : Ev (fun k => place_Near.f k s line col) ((near s line col : Int), 0) ∧ Ev (fun k => marginaliaref02_Near.f k s line col) (near s line col : Int) := by
  unfold place_Near.f marginaliaref02_Near.f near
  have L := lines_ev s (by omega)
  have L2 := rlines_ev s (by omega)
  by_cases h0 : line < 0
  · rw [if_pos h0]
    exact ⟨Ev.neg (by omega) (Ev.bind L (Ev.pos h0 (Ev.now _))), Ev.bind L2 (Ev.pos h0 (Ev.now _))⟩
  · rw [if_neg h0]
    by_cases h1 : line ≥ ((lns s).length : Int)
    · rw [if_pos h1]
      exact ⟨Ev.neg (by omega) (Ev.bind L (Ev.neg h0 (Ev.pos h1 (Ev.now _)))), Ev.bind L2 (Ev.neg h0 (Ev.pos h1 (Ev.now _)))⟩
    · rw [if_neg h1]
      obtain ⟨n, rfl⟩ : ∃ n : Nat, line = n := ⟨line.toNat, by omega⟩
      obtain ⟨a, e, hx, hae, hst⟩ := lns_form s n (by omega)
      have hg : (lns s).getD n ⟨0, 0⟩ = ⟨(a : Int), (e : Int)⟩ := by rw [List.getD_eq_getElem?_getD, hx]; rfl
      have hrd : rd_T39 (lns s) (n : Int) = ⟨(a : Int), (e : Int)⟩ := by
        unfold rd_T39
        have e2 : ((n : Int)).toNat = n := rfl
        rw [e2, List.getD_eq_getElem?_getD, hx]
        rfl
      have e3 : ((n : Int)).toNat = n := rfl
      simp only [e3, hg]
      have e4 : ((a : Int)).toNat = a := rfl
      have e5 : ((e : Int)).toNat = e := rfl
      simp only [e4, e5]
      constructor
      · refine Ev.neg (by omega) (Ev.bind L (Ev.neg h0 (Ev.neg h1 (Ev.pos (by omega) (Ev.pos (by omega) ?_)))))
        rw [hrd]
        simp only
        have hf := find_loop s e (if col < 0 then 0 else col) a (by omega) hst (e - a) a 0 (Nat.le_refl _) hae (by omega)
        rw [mx0]
        exact Ev.bind hf (Ev.now _)
      · refine Ev.bind L2 (Ev.neg h0 (Ev.neg h1 (Ev.pos (by omega) (Ev.pos (by omega) ?_))))
        rw [hrd]
        simp only
        exact rnear_loop s (lns s) n e a col (by omega) hst (by omega) hx (e - a) a 0 (Nat.le_refl _) hae (by omega) (.inl rfl)
theorem Offset_long (s : ByteArray) (line col : Int) (hs : s.size > 20000) : Ev (fun k => place_Offset.f k s line col) (0, 3) := by
  unfold place_Offset.f
  exact Ev.pos (by omega) (Ev.now _)
theorem Near_long (s : ByteArray) (line col : Int) (hs : s.size > 20000) : Ev (fun k => place_Near.f k s line col) (0, 3) := by
  unfold place_Near.f
  exact Ev.pos (by omega) (Ev.now _)
end Go.Proofs.YtbioehoeoalalaaDoor.P
