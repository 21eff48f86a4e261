/- The lines' spans, one after the other; layer 1's Line says the same. -/
import Derived.Test.YtbioehoeoalalaaDoorPlaceSp8
import Derived.Test.YtbioehoeoalalaaDoorRopeL
set_option linter.unusedVariables false
set_option linter.unusedSimpArgs false
namespace Go.Proofs.YtbioehoeoalalaaDoor.P
open Go.RowKit Go.Proofs.YtbioehoeoalalaaDoorW.PrintWords Go.Proofs.YtbioehoeoalalaaDoorW.PrintLast Go.Proofs.YtbioehoeoalalaaDoorW.PrintMore
theorem B_end (s : ByteArray) : B s s.size ≠ 10 := by
  intro h
  unfold B at h
  have h2 : s.get! s.size = default := by
    unfold ByteArray.get!
    simp [Array.getElem!_eq_getD, Array.getD]
  rw [h2] at h
  exact absurd h (by decide)
theorem lns_chain (s : ByteArray) : 0 < (lns s).length ∧ ∀ n, n < (lns s).length → ∃ a e : Nat, (lns s)[n]? = some ⟨(a : Int), (e : Int)⟩ ∧ a ≤ e ∧ e ≤ s.size ∧ (n = 0 → a = 0) ∧ (n + 1 < (lns s).length → e < s.size ∧ B s e = 10 ∧ ∃ e' : Nat, (lns s)[n + 1]? = some ⟨((e + 1 : Nat) : Int), (e' : Int)⟩) ∧ (n + 1 = (lns s).length → e = s.size) := by
  obtain ⟨hlen, hline⟩ := lns_line s
  refine ⟨by omega, fun n hn => ?_⟩
  obtain ⟨a, e, q1, q2, q3, q4, q5, q6⟩ := hline n hn
  have hes := q3.1
  have z := nls_range s a (e - a) (by omega) (fun j h1 h2 => q4 j h1 (by omega))
  rw [show a + (e - a) = e by omega] at z
  refine ⟨a, e, q1, q2, hes, fun h0 => ?_, fun hn1 => ?_, fun hn1 => ?_⟩
  · rcases q5 with h | ⟨h1, hb⟩
    · exact h
    · exfalso
      have m := nls_succ s (a - 1) (by omega)
      rw [if_pos hb, show a - 1 + 1 = a by omega] at m
      omega
  · obtain ⟨a', e', r1, r2, r3, r4, r5, r6⟩ := hline (n + 1) hn1
    have hae : e < a' := by
      rcases Nat.lt_or_ge e a' with h | h
      · exact h
      · have := nls_mono s a' e h
        omega
    have hb : B s e = 10 := by
      rcases q3.2 with h | h
      · have := r3.1; omega
      · exact h
    have hlt : e < s.size := by have := r3.1; omega
    have m1 := nls_succ s e hlt
    rw [if_pos hb] at m1
    have ea : a' = e + 1 := by
      rcases Nat.lt_or_ge (e + 1) a' with h | h
      · exfalso
        rcases r5 with h0 | ⟨h0, hb'⟩
        · omega
        · have m2 := nls_mono s (e + 1) (a' - 1) (by omega)
          have m3 := nls_succ s (a' - 1) (by have := r3.1; omega)
          rw [if_pos hb', show a' - 1 + 1 = a' by omega] at m3
          omega
      · omega
    subst ea
    exact ⟨hlt, hb, e', r1⟩
  · rcases q3.2 with h | h
    · exact h
    · rcases Nat.lt_or_ge e s.size with g | g
      · exfalso
        have m1 := nls_succ s e g
        rw [if_pos h] at m1
        have m2 := nls_mono s (e + 1) s.size (by omega)
        omega
      · omega
theorem scan_sl (n : Nat) : ∀ (r : List UInt8) (f p l : Nat) (x : Sp), l ≤ n → (sl r f p)[n - l]? = some x → Rope.lineR (n : Int) (p + r.length) (Rope.scan (n : Int) r p l f) = (x.f0, x.f1, 0) := by
  intro r
  induction r with
  | nil =>
    intro f p l x hl hx
    simp only [sl] at hx
    have e : n - l = 0 := by
      rcases Nat.eq_zero_or_pos (n - l) with h | h
      · exact h
      · rw [List.getElem?_eq_none (by simp; omega)] at hx; cases hx
    rw [e] at hx
    simp only [List.getElem?_cons_zero, Option.some.injEq] at hx
    subst hx
    simp only [Rope.scan, Rope.lineR, List.length_nil, Nat.add_zero]
    rw [if_pos (by omega)]
  | cons c r ih =>
    intro f p l x hl hx
    simp only [sl] at hx
    simp only [Rope.scan]
    by_cases h : c = 10
    · rw [if_pos h] at hx ⊢
      by_cases e : (l : Int) = (n : Int)
      · rw [if_pos e]
        rw [show n - l = 0 by omega] at hx
        simp only [List.getElem?_cons_zero, Option.some.injEq] at hx
        subst hx
        rfl
      · rw [if_neg e]
        rw [show n - l = (n - (l + 1)) + 1 by omega, List.getElem?_cons_succ] at hx
        have := ih (p + 1) (p + 1) (l + 1) x (by omega) hx
        rw [← this, List.length_cons]
        congr 1
        omega
    · rw [if_neg h] at hx ⊢
      have := ih f (p + 1) l x hl hx
      rw [← this, List.length_cons]
      congr 1
      omega
theorem line_lns (s : ByteArray) (n : Nat) (x : Sp) (h : (lns s)[n]? = some x) : Rope.lineA (n : Int) s.data.toList = (x.f0, x.f1, 0) := by
  have := scan_sl n s.data.toList 0 0 0 x (by omega) (by simpa [lns] using h)
  unfold Rope.lineA
  rw [Nat.zero_add] at this
  exact this
theorem txt_one (s : ByteArray) : Rope.txt (Rope.one s) = s.data.toList := by
  unfold Rope.one
  split
  · rename_i h
    have : s.data.toList = [] := List.length_eq_zero_iff.mp (by rw [Ut.size_data]; exact h)
    rw [this]; rfl
  · simp [Rope.txt]
theorem tot_one' (s : ByteArray) : Rope.tot (Rope.one s) = s.size := by
  unfold Rope.one
  split
  · rename_i h; rw [h]; rfl
  · simp [Rope.tot]
theorem feeds_one (s : ByteArray) : 1 + Rope.feeds (Rope.one s) = (lns s).length := by
  rw [(lns_line s).1]
  have h1 : Rope.feeds (Rope.one s) = s.data.toList.count 10 := by
    unfold Rope.one
    split
    · rename_i h
      have : s.data.toList = [] := List.length_eq_zero_iff.mp (by rw [Ut.size_data]; exact h)
      rw [this]; rfl
    · simp [Rope.feeds, Lib.countByte]
  have h2 : nls s s.size = s.data.toList.count 10 := by
    unfold nls
    rw [List.take_of_length_le (by rw [Ut.size_data]; omega)]
  omega
theorem Lines_ev (s : ByteArray) (hs : s.size ≤ 20000) : Ev (fun k => place_Lines.f k s) (lns s, 0) := by
  unfold place_Lines.f
  exact Ev.neg (by omega) (Ev.bind (lines_ev s (by omega)) (Ev.now _))
theorem Lines_long (s : ByteArray) (hs : s.size > 20000) : Ev (fun k => place_Lines.f k s) ([], 3) := by
  unfold place_Lines.f
  exact Ev.pos (by omega) (Ev.now _)
end Go.Proofs.YtbioehoeoalalaaDoor.P
