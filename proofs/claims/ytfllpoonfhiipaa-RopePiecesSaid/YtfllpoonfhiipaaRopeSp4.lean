/- How many pieces Edit makes. -/
import Derived.Test.YtfllpoonfhiipaaRopeSp3
set_option linter.unusedVariables false
namespace Go.Proofs.Ytfllpoonfhiipaa.Pure
open Go.RowKit Go.Proofs.Ytfllpoonfhiipaa Go.Proofs.Ytfllpoonfhiipaa.P Go.Proofs.Ytfllpoonfhiipaa.Rope Go.Proofs.YtfllpoonfhiipaaW.PrintWords Go.Proofs.YtfllpoonfhiipaaW.PrintLast Go.Proofs.YtfllpoonfhiipaaW.PrintMore
def hit (a b p z : Int) : Prop := (if a - p < 0 then 0 else a - p) < (if z < b - p then z else b - p)
instance (a b p z : Int) : Decidable (hit a b p z) := by unfold hit; infer_instance
theorem hit_iff (a b p z : Int) : hit a b p z ↔ 0 < z ∧ p < b ∧ a < b ∧ a < p + z := by
  unfold hit
  split <;> split <;> omega
theorem cutP_len_cons (a b p : Int) (s : ByteArray) (r : List ByteArray) : (cutP a b p (s :: r)).length = (if hit a b p s.size then 1 else 0) + (cutP a b (p + s.size) r).length := by
  by_cases h : hit a b p s.size
  · simp only [cutP]
    rw [if_pos h]
    unfold hit at h
    rw [if_pos h, List.length_cons]
    omega
  · simp only [cutP]
    rw [if_neg h]
    unfold hit at h
    rw [if_neg h]
    omega
theorem cutP_zero (a b : Int) : ∀ (ps : List ByteArray) (p : Int), b ≤ p → (cutP a b p ps).length = 0
  | [], _, _ => rfl
  | s :: r, p, h => by
    rw [cutP_len_cons, cutP_zero a b r (p + s.size) (by omega), if_neg (by rw [hit_iff]; omega)]
theorem cutP_mono (a a' b : Int) (h : a ≤ a') : ∀ (ps : List ByteArray) (p : Int), (cutP a' b p ps).length ≤ (cutP a b p ps).length
  | [], _ => Nat.le_refl _
  | s :: r, p => by
    have := cutP_mono a a' b h r (p + s.size)
    rw [cutP_len_cons, cutP_len_cons]
    have h1 := hit_iff a b p s.size
    have h2 := hit_iff a' b p s.size
    by_cases x : hit a b p s.size
    · rw [if_pos x]; split <;> omega
    · rw [if_neg x, if_neg (by rw [h2]; rw [h1] at x; omega)]; omega
theorem cutP_two (a b c : Int) (h : a ≤ b) (h' : b ≤ c) : ∀ (ps : List ByteArray) (p : Int), (cutP a b p ps).length + (cutP b c p ps).length ≤ (cutP a c p ps).length + 1
  | [], _ => by simp [cutP]
  | s :: r, p => by
    have ih := cutP_two a b c h h' r (p + s.size)
    have hz : ((s.size : Nat) : Int) ≥ 0 := by omega
    rw [cutP_len_cons, cutP_len_cons, cutP_len_cons]
    have h1 := hit_iff a b p s.size
    have h2 := hit_iff b c p s.size
    have h3 := hit_iff a c p s.size
    by_cases hb : b ≤ p + s.size
    · have z := cutP_zero a b r (p + s.size) hb
      have m := cutP_mono a b c h r (p + s.size)
      by_cases x : hit a c p s.size
      · rw [if_pos x]
        split <;> split <;> omega
      · have y : ¬ hit b c p s.size := by rw [h2]; rw [h3] at x; omega
        simp only [if_neg x, if_neg y]
        split <;> omega
    · have y : ¬ hit b c p s.size := by rw [h2]; omega
      simp only [if_neg y]
      by_cases x : hit a b p s.size
      · rw [if_pos x, if_pos (by rw [h3]; rw [h1] at x; omega)]; omega
      · rw [if_neg x]; split <;> omega
def most (l : List Ed) : Nat := (l.map fun e => 2 + min 1 e.f2.size).sum
theorem most_cons (e : Ed) (r : List Ed) : most (e :: r) = 2 + min 1 e.f2.size + most r := by simp [most]
theorem most_take (l : List Ed) (k : Nat) (h : k < l.length) : most (l.take (k + 1)) = most (l.take k) + (2 + min 1 l[k].f2.size) := by
  rw [List.take_succ_eq_append_getElem h]
  simp only [most, List.map_append, List.sum_append, List.map_cons, List.map_nil, List.sum_cons, List.sum_nil, Nat.add_zero]
theorem most_le (l : List Ed) : most l ≤ 3 * l.length := by
  induction l with
  | nil => simp [most]
  | cons e r ih => rw [most_cons, List.length_cons]; omega
theorem editP_len (ps : List ByteArray) (n : Int) : ∀ (l : List Ed) (p : Int), sp n p l = true → p ≤ n → (editP ps n p l).length ≤ (cutP p n 0 ps).length + most l
  | [], p, _, _ => by simp [editP]
  | e :: r, p, h, hp => by
    obtain ⟨h1, h2, h3, h4⟩ := sp_cons h
    have ih := editP_len ps n r e.f1 h4 h3
    have c1 := cutP_two p e.f0 n h1 (by omega) ps 0
    have c2 := cutP_mono e.f0 e.f1 n h2 ps 0
    rw [most_cons]
    simp only [editP, List.length_append]
    by_cases hz : e.f2.size = 0
    · rw [if_pos hz]; simp only [List.length_nil]; omega
    · rw [if_neg hz]; simp only [List.length_cons, List.length_nil]; omega
theorem editP_most (ps : List ByteArray) (l : List Ed) (h : sp (tot ps) 0 l = true) : (editP ps (tot ps) 0 l).length ≤ ps.length + most l := by
  have := editP_len ps (tot ps) l 0 h (by omega)
  have := cutP_length 0 (tot ps) ps 0
  omega
/-- No piece is empty. -/
def Full (ps : List ByteArray) : Prop := ∀ s ∈ ps, 0 < s.size
theorem cutP_full (a b : Int) : ∀ (ps : List ByteArray) (p : Int), Full (cutP a b p ps)
  | [], _ => by simp [cutP, Full]
  | s :: r, p => by
    have ih := cutP_full a b r (p + s.size)
    simp only [cutP]
    by_cases h : hit a b p s.size
    · have h' := h
      unfold hit at h'
      rw [if_pos h']
      intro x hx
      rcases List.mem_cons.1 hx with rfl | hx
      · rw [ByteArray.size_extract]
        have := (hit_iff a b p s.size).1 h
        split <;> split <;> omega
      · exact ih x hx
    · unfold hit at h
      rw [if_neg h]
      exact ih
theorem editP_full (ps : List ByteArray) (n : Int) : ∀ (l : List Ed) (p : Int), Full (editP ps n p l)
  | [], p => cutP_full p n ps 0
  | e :: r, p => by
    intro x hx
    simp only [editP] at hx
    rcases List.mem_append.1 hx with hx | hx
    · rcases List.mem_append.1 hx with hx | hx
      · exact cutP_full p e.f0 ps 0 x hx
      · by_cases hz : e.f2.size = 0
        · rw [if_pos hz] at hx; cases hx
        · rw [if_neg hz] at hx
          rw [List.mem_singleton.1 hx]
          omega
    · exact editP_full ps n r e.f1 x hx
theorem full_len {ps : List ByteArray} (h : Full ps) : ps.length ≤ tot ps ∧ min 1 (tot ps) ≤ ps.length := by
  induction ps with
  | nil => simp [tot]
  | cons s r ih =>
    have h1 := ih (fun x hx => h x (List.mem_cons_of_mem _ hx))
    have h2 := h s List.mem_cons_self
    rw [tot_cons, List.length_cons]
    omega
/-- What an edit that is right makes. -/
theorem edit_tot (ps : List ByteArray) (l : List Ed) (h : chk (tot ps) l = 0) : tot (editP ps (tot ps) 0 l) ≤ 20000 ∧ txt (editP ps (tot ps) 0 l) = app (ba (txt ps)) 0 l := by
  obtain ⟨h1, h2, h3, h4⟩ := chk_ok h
  have e := txt_editP ps l 0 h3 (by omega)
  have hz := tot_txt ps
  have hl := app_length (ba (txt ps)) l 0 (by rw [← hz]; exact h3) (by omega) (by omega)
  have := congrArg List.length e
  rw [txt_length] at this
  exact ⟨by omega, e⟩
end Go.Proofs.Ytfllpoonfhiipaa.Pure
