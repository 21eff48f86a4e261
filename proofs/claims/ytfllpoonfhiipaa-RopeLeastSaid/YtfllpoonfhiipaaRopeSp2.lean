/- The laws of Move and Diff, of plain lists: the order of offsets, what stands between them, the least edit. -/
import Derived.Test.YtfllpoonfhiipaaRopeSp
set_option linter.unusedVariables false
set_option linter.unusedSimpArgs false
namespace Go.Proofs.Ytfllpoonfhiipaa.P
open Go.RowKit Go.Proofs.YtfllpoonfhiipaaW.PrintWords
theorem mv_low {m : Int} {o : Int} {after : Bool} : ∀ {l : List Ed} {p b : Int}, sp m p l = true → p ≤ o → p + b ≤ mv o after b l
  | [], p, b, _, h => by simp only [mv]; omega
  | e :: r, p, b, hs, h => by
    obtain ⟨h1, h2, h3, h4⟩ := sp_cons hs
    simp only [mv]
    split
    · omega
    · rename_i g
      split
      · omega
      · have := mv_low (o := o) (after := after) (b := b + grow e) h4 (by omega)
        unfold grow at *
        omega
theorem mv_mono {m : Int} {o1 o2 : Int} {after : Bool} (ho : o1 ≤ o2) : ∀ {l : List Ed} {p b : Int}, sp m p l = true → mv o1 after b l ≤ mv o2 after b l
  | [], p, b, _ => by simp only [mv]; omega
  | e :: r, p, b, hs => by
    obtain ⟨h1, h2, h3, h4⟩ := sp_cons hs
    have low : e.f1 ≤ o2 → e.f0 + b + e.f2.size ≤ mv o2 after (b + grow e) r := by
      intro g
      have := mv_low (o := o2) (after := after) (b := b + grow e) h4 g
      unfold grow at *
      omega
    simp only [mv]
    by_cases c1 : e.f0 > o1 ∨ (e.f0 = o1 ∧ e.f1 > o1) ∨ (e.f0 = o1 ∧ e.f1 = o1 ∧ after = false)
    · rw [if_pos c1]
      split
      · omega
      · split
        · omega
        · have := low (by omega)
          omega
    · rw [if_neg c1]
      by_cases c2 : e.f1 > o1
      · rw [if_pos c2]
        have : e.f0 < o1 := by
          rcases Int.lt_trichotomy e.f0 o1 with h | h | h
          · exact h
          · exact absurd (.inr (.inl ⟨h, c2⟩)) c1
          · exact absurd (.inl h) c1
        rw [if_neg (by rintro (h | h | h) <;> omega)]
        split
        · omega
        · exact low (by omega)
      · rw [if_neg c2]
        have g1 : ¬ (e.f0 > o2 ∨ (e.f0 = o2 ∧ e.f1 > o2) ∨ (e.f0 = o2 ∧ e.f1 = o2 ∧ after = false)) := by
          rintro (h | h | h)
          · omega
          · omega
          · exact c1 (.inr (.inr ⟨by omega, by omega, h.2.2⟩))
        rw [if_neg g1, if_neg (by omega)]
        exact mv_mono ho h4
theorem mv_high {m : Int} {o : Int} {after : Bool} (ho : o ≤ m) : ∀ {l : List Ed} {p b : Int}, sp m p l = true → mv o after b l ≤ b + m - spanSum l + newSum l
  | [], p, b, _ => by
    simp only [mv, spanSum, newSum, List.map_nil, List.sum_nil]
    omega
  | e :: r, p, b, hs => by
    obtain ⟨h1, h2, h3, h4⟩ := sp_cons hs
    have h5 := span_le h4 h3
    rw [spanSum_cons, newSum_cons]
    simp only [mv]
    split
    · omega
    · split
      · omega
      · have := mv_high (o := o) (after := after) ho (b := b + grow e) h4
        unfold grow at *
        omega
/-- No edit meets the offsets from a to b. -/
def Apart (a b : Int) (l : List Ed) : Prop := ∀ e ∈ l, e.f1 < a ∨ b < e.f0
theorem cutS_mid (s : ByteArray) (p q a b : Int) (h0 : 0 ≤ p) (h1 : p ≤ a) (h2 : a ≤ b) (h3 : b ≤ q) (h4 : q ≤ s.size) : ((cutS s p q).drop (a - p).toNat).take (b - a).toNat = cutS s a b := by
  rw [cutS_eq, cutS_eq, List.drop_drop, List.drop_take, List.take_take, List.drop_take]
  congr 1
  · omega
  · congr 1
    omega
theorem drop_add_app {α : Type} {l m : List α} {i j : Nat} (h : i = l.length + j) : (l ++ m).drop i = m.drop j := by
  subst h
  rw [List.drop_append, List.drop_of_length_le (by omega), List.nil_append]
  congr 1
  omega
theorem mid_app (s : ByteArray) {a b : Int} (after : Bool) (hab : a ≤ b) (hb : b ≤ s.size) : ∀ (l : List Ed) (p y : Int), sp s.size p l = true → 0 ≤ p → p ≤ a → Apart a b l →
    mv b after y l = mv a after y l + (b - a) ∧ ((app s p l).drop (mv a after y l - (p + y)).toNat).take (b - a).toNat = cutS s a b
  | [], p, y, _, h0, h1, _ => by
    simp only [mv, app]
    refine ⟨by omega, ?_⟩
    rw [show (a + y - (p + y)).toNat = (a - p).toNat by omega]
    exact cutS_mid s p s.size a b h0 h1 hab hb (by omega)
  | e :: r, p, y, hs, h0, h1, hA => by
    obtain ⟨h2, h3, h4, h5⟩ := sp_cons hs
    simp only [mv]
    rcases hA e (by simp) with h | h
    · have g : ∀ o, a ≤ o → ¬ (e.f0 > o ∨ (e.f0 = o ∧ e.f1 > o) ∨ (e.f0 = o ∧ e.f1 = o ∧ after = false)) := by
        rintro o ho (h | h | h) <;> omega
      rw [if_neg (g a (by omega)), if_neg (g b hab), if_neg (by omega), if_neg (by omega)]
      obtain ⟨i1, i2⟩ := mid_app s after hab hb r e.f1 (y + grow e) h5 (by omega) (by omega) (fun x hx => hA x (by simp [hx]))
      refine ⟨i1, ?_⟩
      have hlow := mv_low (o := a) (after := after) (b := y + grow e) h5 (by omega)
      rw [← i2]
      simp only [app]
      have hlen : ((cutS s p e.f0 ++ e.f2.data.toList).length : Int) = e.f0 - p + e.f2.size := by
        rw [List.length_append, cutS_length, Ut.size_data]
        omega
      rw [drop_add_app (j := (mv a after (y + grow e) r - (e.f1 + (y + grow e))).toNat) (by unfold grow at *; omega)]
    · rw [if_pos (.inl (by omega)), if_pos (.inl (by omega))]
      refine ⟨by omega, ?_⟩
      rw [show (a + y - (p + y)).toNat = (a - p).toNat by omega]
      simp only [app]
      rw [List.append_assoc, List.drop_append_of_le_length (by rw [cutS_length]; omega), List.take_append_of_le_length (by rw [List.length_drop, cutS_length]; omega)]
      exact cutS_mid s p e.f0 a b h0 h1 hab (by omega) (by omega)
/-! ### Diff's edit -/
theorem pre_take : ∀ (l m : List UInt8), l.take (pre l m) = m.take (pre l m)
  | [], m => by simp [pre]
  | _ :: _, [] => by simp [pre]
  | x :: xs, y :: ys => by
    simp only [pre]
    split
    · rename_i h
      rw [h, List.take_succ_cons, List.take_succ_cons, pre_take xs ys]
    · simp
theorem pre_ge : ∀ (u l m : List UInt8), u.length ≤ pre (u ++ l) (u ++ m)
  | [], l, m => by simp
  | x :: xs, l, m => by
    simp only [List.cons_append, pre, if_true, List.length_cons]
    have := pre_ge xs l m
    omega
theorem suf_drop (a b : ByteArray) (k : Nat) (hk : k ≤ pre a.data.toList.reverse b.data.toList.reverse) : a.data.toList.drop (a.size - k) = b.data.toList.drop (b.size - k) := by
  have h := pre_take a.data.toList.reverse b.data.toList.reverse
  have h2 := congrArg (fun l : List UInt8 => (l.take k).reverse) h
  simp only [List.take_take, Nat.min_eq_left hk, List.reverse_take, List.length_reverse, List.reverse_reverse, Ut.size_data] at h2
  exact h2
theorem diff_sp (a b : ByteArray) (n k : Nat) (h : n + k ≤ min a.size b.size) : sp a.size 0 [ed a b n k] = true := by
  show (decide (0 ≤ (n : Int)) && (decide ((n : Int) ≤ (a.size : Int) - k) && (decide ((a.size : Int) - k ≤ a.size) && true))) = true
  rw [decide_eq_true (by omega), decide_eq_true (by omega), decide_eq_true (by omega)]
  rfl
theorem extract_size (s : ByteArray) (a b : Nat) (h : a ≤ b) (h2 : b ≤ s.size) : (s.extract a b).size = b - a := by
  rw [ByteArray.size_extract]
  omega
theorem diff_chk (a b : ByteArray) (ha : a.size ≤ 20000) (hb : b.size ≤ 20000) (n k : Nat) (h : n + k ≤ min a.size b.size) : chk a.size [ed a b n k] = 0 := by
  unfold chk
  rw [if_neg (by omega), if_neg (by simp), if_pos (diff_sp a b n k h), if_neg]
  simp only [spanSum, newSum, List.map_cons, List.map_nil, List.sum_cons, List.sum_nil, ed]
  rw [extract_size b n (b.size - k) (by omega) (by omega)]
  omega
theorem diff_app (a b : ByteArray) (n k : Nat) (h : n + k ≤ min a.size b.size) (h1 : a.data.toList.take n = b.data.toList.take n) (h2 : a.data.toList.drop (a.size - k) = b.data.toList.drop (b.size - k)) : app a 0 [ed a b n k] = b.data.toList := by
  simp only [app, ed, cutS_eq]
  have e1 : (b.extract n (b.size - k)).data.toList = (b.data.toList.take (b.size - k)).drop n := by
    have := cutS_eq b (n : Int) ((b.size - k : Nat) : Int)
    simpa [cutS] using this
  rw [e1, show ((a.size : Int) - k).toNat = a.size - k by omega]
  simp only [Int.toNat_zero, List.drop_zero, Int.toNat_natCast]
  rw [List.take_of_length_le (l := a.data.toList) (i := a.size) (by rw [Ut.size_data]; exact Nat.le_refl _), h1, h2]
  rw [List.drop_take, show b.data.toList.drop (b.size - k) = (b.data.toList.drop n).drop (b.size - k - n) by rw [List.drop_drop]; congr 1; omega]
  rw [List.append_assoc, List.take_append_drop, List.take_append_drop]
theorem suf_bound (a b : ByteArray) : pre a.data.toList b.data.toList + suf a b (pre a.data.toList b.data.toList) ≤ min a.size b.size := by
  have := pre_min a b
  unfold suf
  omega
/-- Diff's edit is no longer than another one that does it. -/
theorem diff_least (a : ByteArray) (e : Ed) (h : sp a.size 0 [e] = true) (b : ByteArray) (hb : b = ba (app a 0 [e])) :
    ((a.size : Int) - suf a b (pre a.data.toList b.data.toList) - pre a.data.toList b.data.toList) + ((b.extract (pre a.data.toList b.data.toList) (b.size - suf a b (pre a.data.toList b.data.toList))).size : Int) ≤ (e.f1 - e.f0) + e.f2.size := by
  obtain ⟨h1, h2, h3, _⟩ := sp_cons h
  have hl := app_length a [e] 0 h (by omega) (by omega)
  simp only [spanSum, newSum, List.map_cons, List.map_nil, List.sum_cons, List.sum_nil] at hl
  have hbs : (b.size : Int) = a.size - (e.f1 - e.f0) + e.f2.size := by
    rw [hb, ba_size]
    omega
  have hbl : b.data.toList = a.data.toList.take e.f0.toNat ++ (e.f2.data.toList ++ a.data.toList.drop e.f1.toNat) := by
    rw [hb, ba_list]
    simp only [app, cutS_eq, Int.toNat_zero, List.drop_zero, Int.toNat_natCast]
    rw [List.take_of_length_le (l := a.data.toList) (i := a.size) (by rw [Ut.size_data]; exact Nat.le_refl _), List.append_assoc]
  have hpre : e.f0.toNat ≤ pre a.data.toList b.data.toList := by
    have := pre_ge (a.data.toList.take e.f0.toNat) (a.data.toList.drop e.f0.toNat) (e.f2.data.toList ++ a.data.toList.drop e.f1.toNat)
    rw [List.take_append_drop, ← hbl, List.length_take, Ut.size_data] at this
    omega
  have hsuf : a.size - e.f1.toNat ≤ pre a.data.toList.reverse b.data.toList.reverse := by
    have ea : a.data.toList.reverse = (a.data.toList.drop e.f1.toNat).reverse ++ (a.data.toList.take e.f1.toNat).reverse := by
      rw [← List.reverse_append, List.take_append_drop]
    have eb : b.data.toList.reverse = (a.data.toList.drop e.f1.toNat).reverse ++ (e.f2.data.toList.reverse ++ (a.data.toList.take e.f0.toNat).reverse) := by
      rw [hbl]
      simp
    have := pre_ge (a.data.toList.drop e.f1.toNat).reverse (a.data.toList.take e.f1.toNat).reverse (e.f2.data.toList.reverse ++ (a.data.toList.take e.f0.toNat).reverse)
    rw [← ea, ← eb, List.length_reverse, List.length_drop, Ut.size_data] at this
    exact this
  have hpm := pre_min a b
  generalize hn : pre a.data.toList b.data.toList = n at *
  have hk : suf a b n = min (pre a.data.toList.reverse b.data.toList.reverse) (min a.size b.size - n) := rfl
  generalize pre a.data.toList.reverse b.data.toList.reverse = q at *
  generalize suf a b n = k at *
  rw [extract_size b n (b.size - k) (by omega) (by omega)]
  omega
end Go.Proofs.Ytfllpoonfhiipaa.P
