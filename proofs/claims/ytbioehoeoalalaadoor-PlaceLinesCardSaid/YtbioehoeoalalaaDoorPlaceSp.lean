/- What a character is (the kit's decoder), and what ref.Char and step say of it. -/
import Derived.Test.YtbioehoeoalalaaDoorPx10
import Derived.Test.YtbioehoeoalalaaDoorPx12
import Derived.Shelf.Unicode.DecodeSlow
import Derived.Test.YtbioehoeoalalaaDoorUt
import Derived.Lib.DecodeN
set_option linter.unusedVariables false
set_option linter.unusedSimpArgs false
namespace Go.Proofs.YtbioehoeoalalaaDoor.P
open Go.RowKit Go.Proofs.YtbioehoeoalalaaDoorW.PrintWords Go.Proofs.YtbioehoeoalalaaDoorW.PrintLast Go.Proofs.YtbioehoeoalalaaDoorW.PrintMore
/-! ### rounds -/
theorem Ev.shift {α : Type} {g : Nat → Option α} {r : α} (h : Ev (fun k => g (k + 1)) r) : Ev g r := Ev.step (fun _ => rfl) h
theorem Ev.pos {α : Type} {c : Prop} [Decidable c] {f g : Nat → Option α} {r : α} (h : c) (k : Ev f r) : Ev (fun n => if c then f n else g n) r := by
  simp only [if_pos h]
  exact k
theorem Ev.neg {α : Type} {c : Prop} [Decidable c] {f g : Nat → Option α} {r : α} (h : ¬ c) (k : Ev g r) : Ev (fun n => if c then f n else g n) r := by
  simp only [if_neg h]
  exact k
theorem Ev.bind1 {α β : Type} {o : Option α} {f : Nat → α → Option β} {a : α} {r : β} (h : o = some a) (k : Ev (fun n => f n a) r) : Ev (fun n => o.bind (f n)) r := by
  rw [h]
  exact k
theorem w64 {n : Int} (h : -9223372036854775808 ≤ n) (h' : n ≤ 9223372036854775807) : wrap64 n = n := by unfold wrap64; omega
/-! ### characters -/
/-- The byte at a place (0 beyond the end). -/
def B (s : ByteArray) (i : Nat) : Nat := (s.get! i).toNat
theorem B_lt (s : ByteArray) (i : Nat) : B s i < 256 := (s.get! i).toNat_lt
theorem bt_B (s : ByteArray) (i : Nat) (h : i < s.size) : bt s (i : Int) = B s i := by
  rw [← bt_at s (i : Int) h]
  unfold B
  rw [Utf8W.get!_of_lt s i h]
  rfl
def dc (s : ByteArray) (i : Nat) : Nat × Nat := Utf8.decode s i
/-- Bytes of the character at a place, and its width. -/
def dn (s : ByteArray) (i : Nat) : Nat := (dc s i).2
def dw (s : ByteArray) (i : Nat) : Nat := if (dc s i).1 ≥ 65536 then 2 else 1
theorem dc_eq (s : ByteArray) (i : Nat) : dc s i = Lib.decodeN (s.size - i) (B s i) (B s (i + 1)) (B s (i + 2)) (B s (i + 3)) := Lib.decode_at s i
theorem decodeN_pos (n b0 b1 b2 b3 : Nat) : 1 ≤ (Lib.decodeN n b0 b1 b2 b3).2 ∧ (Lib.decodeN n b0 b1 b2 b3).2 ≤ 4 := by
  unfold Lib.decodeN
  repeat' split
  all_goals simp
theorem decodeN_le (n b0 b1 b2 b3 : Nat) (h : 0 < n) : (Lib.decodeN n b0 b1 b2 b3).2 ≤ n := by
  unfold Lib.decodeN
  repeat' split
  all_goals (simp only; omega)
theorem dn_pos (s : ByteArray) (i : Nat) : 1 ≤ dn s i ∧ dn s i ≤ 4 := by
  unfold dn; rw [dc_eq]; exact decodeN_pos _ _ _ _ _
theorem dn_le (s : ByteArray) (i : Nat) (h : i < s.size) : i + dn s i ≤ s.size := by
  have : dn s i ≤ s.size - i := by unfold dn; rw [dc_eq]; exact decodeN_le _ _ _ _ _ (by omega)
  omega
theorem dw_pos (s : ByteArray) (i : Nat) : 1 ≤ dw s i ∧ dw s i ≤ 2 := by unfold dw; split <;> omega
/-- The bytes inside of a character are no line feeds. -/
theorem decodeN_in (n b0 b1 b2 b3 : Nat) : (1 < (Lib.decodeN n b0 b1 b2 b3).2 → b1 / 64 = 2) ∧ (2 < (Lib.decodeN n b0 b1 b2 b3).2 → b2 / 64 = 2) ∧ (3 < (Lib.decodeN n b0 b1 b2 b3).2 → b3 / 64 = 2) := by
  unfold Lib.decodeN
  repeat' split
  all_goals (simp only; omega)
theorem dn_in (s : ByteArray) (i j : Nat) (h1 : i < j) (h2 : j < i + dn s i) : B s j ≠ 10 := by
  have h := decodeN_in (s.size - i) (B s i) (B s (i + 1)) (B s (i + 2)) (B s (i + 3))
  have h4 := (dn_pos s i).2
  unfold dn at h2 h4
  rw [dc_eq] at h2 h4
  obtain ⟨a, b, c⟩ := h
  have : j = i + 1 ∨ j = i + 2 ∨ j = i + 3 := by omega
  rcases this with rfl | rfl | rfl
  · have := a (by omega); omega
  · have := b (by omega); omega
  · have := c (by omega); omega
theorem dn_nl (s : ByteArray) (i : Nat) (h : B s i = 10) : dn s i = 1 ∧ dw s i = 1 := by
  unfold dn dw
  rw [dc_eq, h]
  simp [Lib.decodeN]
/-- A text that is cut off at a line feed, or at its end, has the same characters before it. -/
theorem decodeN_cut (n m b0 b1 b2 b3 c1 c2 c3 : Nat) (hm : 0 < m) (hn : m ≤ n) (h1 : 1 < m → c1 = b1) (h2 : 2 < m → c2 = b2) (h3 : 3 < m → c3 = b3) (e : m = n ∨ (m = 1 → b1 = 10) ∧ (m = 2 → b2 = 10) ∧ (m = 3 → b3 = 10)) : Lib.decodeN m b0 c1 c2 c3 = Lib.decodeN n b0 b1 b2 b3 := by
  have p1 : (1 < m ∧ c1 / 64 = 2) ↔ (1 < n ∧ b1 / 64 = 2) := by omega
  have p2 : (1 < m ∧ c1 / 64 = 2) ∧ (2 < m ∧ c2 / 64 = 2) ↔ (1 < n ∧ b1 / 64 = 2) ∧ (2 < n ∧ b2 / 64 = 2) := by omega
  have p3 : (1 < m ∧ c1 / 64 = 2) ∧ (2 < m ∧ c2 / 64 = 2) ∧ (3 < m ∧ c3 / 64 = 2) ↔ (1 < n ∧ b1 / 64 = 2) ∧ (2 < n ∧ b2 / 64 = 2) ∧ (3 < n ∧ b3 / 64 = 2) := by omega
  unfold Lib.decodeN
  by_cases q1 : 1 < n ∧ b1 / 64 = 2
  · have e1 := h1 (p1.2 q1).1
    subst e1
    by_cases q2 : 2 < n ∧ b2 / 64 = 2
    · have r2 := (p2.2 ⟨q1, q2⟩).2
      have e2 := h2 r2.1
      subst e2
      by_cases q3 : 3 < n ∧ b3 / 64 = 2
      · have r3 := (p3.2 ⟨q1, q2, q3⟩).2.2
        have e3 := h3 r3.1
        subst e3
        simp only [(p1.2 q1), r2, r3, q1, q2, q3]
      · have r3 : ¬ (3 < m ∧ c3 / 64 = 2) := fun h => q3 ((p3.1 ⟨p1.2 q1, r2, h⟩).2.2)
        simp only [(p1.2 q1), r2, r3, q1, q2, q3, and_false, if_false]
    · have r2 : ¬ (2 < m ∧ c2 / 64 = 2) := fun h => q2 ((p2.1 ⟨p1.2 q1, h⟩).2)
      simp only [(p1.2 q1), r2, q1, q2, and_false, false_and, if_false]
  · have r1 : ¬ (1 < m ∧ c1 / 64 = 2) := fun h => q1 (p1.1 h)
    simp only [r1, q1, and_false, false_and, if_false]
end Go.Proofs.YtbioehoeoalalaaDoor.P
