/- ref.Char and step. -/
import Derived.Test.YtbioehoeoalalaaDoorPlaceSp
set_option linter.unusedVariables false
set_option linter.unusedSimpArgs false
namespace Go.Proofs.YtbioehoeoalalaaDoor.P
open Go.RowKit Go.Proofs.YtbioehoeoalalaaDoorW.PrintWords Go.Proofs.YtbioehoeoalalaaDoorW.PrintLast Go.Proofs.YtbioehoeoalalaaDoorW.PrintMore
theorem Char_next (s : ByteArray) (i j : Nat) (x7 x8 code : Int) (r : Int × Int) (hj : (j : Int) ≤ x7) (hi : i + j < s.size) (hs : s.size ≤ 100000) (hj4 : j ≤ 4) (hc : 0 ≤ code ∧ code ≤ 1000000)
    (h : (128 ≤ B s (i + j) ∧ B s (i + j) ≤ 191 → Ev (fun k => marginaliaref02_Char.l0 k s i x7 x8 (64 * code + B s (i + j) - 128) ((j + 1 : Nat) : Int)) r) ∧ (¬ (128 ≤ B s (i + j) ∧ B s (i + j) ≤ 191) → r = (1, 1))) :
    Ev (fun k => marginaliaref02_Char.l0 k s i x7 x8 code j) r := by
  refine Ev.shift ?_
  simp only [marginaliaref02_Char.l0]
  have hb := B_lt s (i + j)
  have e1 : wrap64 ((i : Int) + (j : Int)) = ((i + j : Nat) : Int) := by rw [w64 (by omega) (by omega)]; omega
  rw [e1, bt_B s (i + j) hi, w64 (n := (B s (i + j) : Int)) (by omega) (by omega)]
  refine Ev.pos hj (Ev.pos (by omega) (Ev.pos (by omega) ?_))
  by_cases c1 : (B s (i + j) : Int) < 128
  · refine Ev.pos c1 ?_
    rw [h.2 (by omega)]
    exact Ev.now _
  · refine Ev.neg c1 ?_
    by_cases c2 : (B s (i + j) : Int) > 191
    · refine Ev.pos c2 ?_
      rw [h.2 (by omega)]
      exact Ev.now _
    · refine Ev.neg c2 ?_
      have e2 : wrap64 (wrap64 (wrap64 (64 * code) + (B s (i + j) : Int)) - 128) = 64 * code + B s (i + j) - 128 := by
        rw [w64 (n := 64 * code) (by omega) (by omega), w64 (n := 64 * code + (B s (i + j) : Int)) (by omega) (by omega), w64 (by omega) (by omega)]
      have e3 : wrap64 ((j : Int) + 1) = ((j + 1 : Nat) : Int) := by rw [w64 (by omega) (by omega)]; omega
      rw [e2, e3]
      exact h.1 (by omega)
def fin (x7 x8 code : Int) : Int × Int := if code < x8 ∨ code > 1114111 ∨ (55296 ≤ code ∧ code ≤ 57343) then (1, 1) else if code ≥ 65536 then (x7 + 1, 2) else (x7 + 1, 1)
theorem Char_last (s : ByteArray) (i j : Nat) (x7 x8 code : Int) (hj : ¬ (j : Int) ≤ x7) (h7 : 0 ≤ x7) (hj4 : j ≤ 4) : Ev (fun k => marginaliaref02_Char.l0 k s i x7 x8 code j) (fin x7 x8 code) := by
  refine Ev.shift ?_
  simp only [marginaliaref02_Char.l0]
  refine Ev.neg hj ?_
  have J : ∀ b : Bool, Ev (fun k => marginaliaref02_Char.j4 k x7 code b) (if b = true then (1, 1) else if code ≥ 65536 then (x7 + 1, 2) else (x7 + 1, 1)) := by
    intro b
    refine Ev.shift ?_
    simp only [marginaliaref02_Char.j4]
    rw [w64 (n := x7 + 1) (by omega) (by omega)]
    by_cases hb : b = true
    · simp only [if_pos hb]; exact Ev.now _
    · simp only [if_neg hb]
      by_cases hc : code ≥ 65536
      · simp only [if_pos hc]; exact Ev.now _
      · simp only [if_neg hc]; exact Ev.now _
  unfold fin
  by_cases c1 : code < x8
  · rw [if_pos (.inl c1)]
    exact Ev.pos c1 (J true)
  · refine Ev.neg c1 ?_
    by_cases c2 : code > 1114111
    · rw [if_pos (.inr (.inl c2))]
      exact Ev.pos c2 (J true)
    · refine Ev.neg c2 ?_
      by_cases c3 : code ≥ 55296
      · refine Ev.pos c3 ?_
        by_cases c4 : code ≤ 57343
        · rw [if_pos (.inr (.inr ⟨c3, c4⟩))]
          have := J true
          rw [decide_eq_true c4]
          exact this
        · rw [if_neg (by omega), decide_eq_false c4]
          exact J false
      · refine Ev.neg c3 ?_
        rw [if_neg (by omega)]
        exact J false
theorem j2_ev (s : ByteArray) (i : Nat) (m : Nat) (x8 code : Int) (r : Int × Int) (hs : s.size ≤ 100000) (hi : i < s.size) (hm : m ≤ 3) (h : (i + m ≥ s.size → r = (1, 1)) ∧ (i + m < s.size → Ev (fun k => marginaliaref02_Char.l0 k s i m x8 code ((1 : Nat) : Int)) r)) :
    Ev (fun k => marginaliaref02_Char.j2 k s i m x8 code) r := by
  refine Ev.shift ?_
  simp only [marginaliaref02_Char.j2]
  have e1 : wrap64 ((i : Int) + (m : Int)) = ((i + m : Nat) : Int) := by rw [w64 (by omega) (by omega)]; omega
  rw [e1]
  by_cases c : i + m ≥ s.size
  · rw [h.1 c]
    exact Ev.pos (by omega) (Ev.now _)
  · exact Ev.neg (by omega) (h.2 (by omega))
theorem Char_ev (s : ByteArray) (i : Nat) (hs : s.size ≤ 100000) (hi : i < s.size) : Ev (fun k => marginaliaref02_Char.f k s i) ((dn s i : Int), (dw s i : Int)) := by
  unfold marginaliaref02_Char.f dn dw
  rw [dc_eq]
  have h0 := B_lt s i
  have h1 := B_lt s (i + 1)
  have h2 := B_lt s (i + 2)
  have h3 := B_lt s (i + 3)
  rw [bt_B s i hi, w64 (n := (B s i : Int)) (by omega) (by omega)]
  refine Ev.pos (by omega) (Ev.pos (by omega) ?_)
  have G1 : ∀ b : Bool, (B s i < 194 ∨ 245 ≤ B s i) → True := fun _ _ => trivial
  by_cases a : 194 ≤ B s i ∧ B s i ≤ 223
  · -- two bytes
    refine Ev.pos (by omega) ?_
    rw [decide_eq_true (by omega : (B s i : Int) ≤ 223)]
    refine Ev.shift ?_
    simp only [marginaliaref02_Char.j0]
    refine Ev.pos (by simp) ?_
    rw [w64 (n := (B s i : Int) - 192) (by omega) (by omega)]
    refine j2_ev s i 1 128 _ _ hs hi (by omega) ⟨fun c => ?_, fun c => ?_⟩
    · unfold Lib.decodeN
      simp only [show ¬ (B s i < 128) by omega, show ¬ (1 < s.size - i) by omega, show ¬ (B s i / 16 = 14) by omega, show ¬ (B s i / 8 = 30) by omega, if_false, false_and, and_false]
      simp
    · refine Char_next s i 1 1 128 _ _ (by omega) c hs (by omega) (by omega) ⟨fun c1 => ?_, fun c1 => ?_⟩
      · have := Char_last s i 2 1 128 (64 * ((B s i : Int) - 192) + B s (i + 1) - 128) (by omega) (by omega) (by omega)
        have e : fin 1 128 (64 * ((B s i : Int) - 192) + B s (i + 1) - 128) = (((Lib.decodeN (s.size - i) (B s i) (B s (i + 1)) (B s (i + 2)) (B s (i + 3))).2 : Int), ((if (Lib.decodeN (s.size - i) (B s i) (B s (i + 1)) (B s (i + 2)) (B s (i + 3))).1 ≥ 65536 then 2 else 1 : Nat) : Int)) := by
          unfold fin Lib.decodeN
          rw [if_neg (by omega), if_neg (by omega), if_neg (by omega), if_pos (by omega), if_pos (by omega)]
          simp only
          rw [if_neg (by omega)]
          rfl
        rw [← e]
        exact this
      · unfold Lib.decodeN
        rw [if_neg (by omega), if_neg (by omega), if_neg (by omega), if_neg (by omega)]
        rfl
  · by_cases a2 : 224 ≤ B s i ∧ B s i ≤ 239
    · refine Ev.pos (by omega) ?_
      rw [decide_eq_false (by omega : ¬ (B s i : Int) ≤ 223)]
      refine Ev.shift ?_
      simp only [marginaliaref02_Char.j0]
      refine Ev.neg (by decide) (Ev.pos (by omega) ?_)
      rw [decide_eq_true (by omega : (B s i : Int) ≤ 239)]
      refine Ev.shift ?_
      simp only [marginaliaref02_Char.j1]
      refine Ev.pos (by simp) ?_
      rw [w64 (n := (B s i : Int) - 224) (by omega) (by omega)]
      refine j2_ev s i 2 2048 _ _ hs hi (by omega) ⟨fun c => ?_, fun c => ?_⟩
      · unfold Lib.decodeN
        rw [if_neg (by omega), if_neg (by omega), if_neg (by omega), if_neg (by omega)]
        rfl
      · refine Char_next s i 1 2 2048 _ _ (by omega) (by omega) hs (by omega) (by omega) ⟨fun c1 => ?_, fun c1 => ?_⟩
        · refine Char_next s i 2 2 2048 _ _ (by omega) c hs (by omega) (by omega) ⟨fun c2 => ?_, fun c2 => ?_⟩
          · have := Char_last s i 3 2 2048 (64 * (64 * ((B s i : Int) - 224) + B s (i + 1) - 128) + B s (i + 2) - 128) (by omega) (by omega) (by omega)
            have e : fin 2 2048 (64 * (64 * ((B s i : Int) - 224) + B s (i + 1) - 128) + B s (i + 2) - 128) = (((Lib.decodeN (s.size - i) (B s i) (B s (i + 1)) (B s (i + 2)) (B s (i + 3))).2 : Int), ((if (Lib.decodeN (s.size - i) (B s i) (B s (i + 1)) (B s (i + 2)) (B s (i + 3))).1 ≥ 65536 then 2 else 1 : Nat) : Int)) := by
              unfold fin Lib.decodeN
              rw [if_neg (c := B s i < 128) (by omega), if_neg (c := B s i / 32 = 6 ∧ _) (by omega), if_pos (c := B s i / 16 = 14 ∧ _) (by omega)]
              split
              · rw [if_neg (by omega)]; rfl
              · rw [if_neg (by omega), if_pos (by omega)]
                simp only
                rw [if_neg (by omega)]
                rfl
            rw [← e]
            exact this
          · unfold Lib.decodeN
            rw [if_neg (by omega), if_neg (by omega), if_neg (by omega), if_neg (by omega)]
            rfl
        · unfold Lib.decodeN
          rw [if_neg (by omega), if_neg (by omega), if_neg (by omega), if_neg (by omega)]
          rfl
    · by_cases a3 : 240 ≤ B s i ∧ B s i ≤ 244
      · refine Ev.pos (by omega) ?_
        rw [decide_eq_false (by omega : ¬ (B s i : Int) ≤ 223)]
        refine Ev.shift ?_
        simp only [marginaliaref02_Char.j0]
        refine Ev.neg (by decide) (Ev.pos (by omega) ?_)
        rw [decide_eq_false (by omega : ¬ (B s i : Int) ≤ 239)]
        refine Ev.shift ?_
        simp only [marginaliaref02_Char.j1]
        refine Ev.neg (by decide) (Ev.pos (by omega) (Ev.pos (by omega) ?_))
        rw [w64 (n := (B s i : Int) - 240) (by omega) (by omega)]
        refine j2_ev s i 3 65536 _ _ hs hi (by omega) ⟨fun c => ?_, fun c => ?_⟩
        · unfold Lib.decodeN
          rw [if_neg (by omega), if_neg (by omega), if_neg (by omega), if_neg (by omega)]
          rfl
        · refine Char_next s i 1 3 65536 _ _ (by omega) (by omega) hs (by omega) (by omega) ⟨fun c1 => ?_, fun c1 => ?_⟩
          · refine Char_next s i 2 3 65536 _ _ (by omega) (by omega) hs (by omega) (by omega) ⟨fun c2 => ?_, fun c2 => ?_⟩
            · refine Char_next s i 3 3 65536 _ _ (by omega) c hs (by omega) (by omega) ⟨fun c3 => ?_, fun c3 => ?_⟩
              · have := Char_last s i 4 3 65536 (64 * (64 * (64 * ((B s i : Int) - 240) + B s (i + 1) - 128) + B s (i + 2) - 128) + B s (i + 3) - 128) (by omega) (by omega) (by omega)
                have e : fin 3 65536 (64 * (64 * (64 * ((B s i : Int) - 240) + B s (i + 1) - 128) + B s (i + 2) - 128) + B s (i + 3) - 128) = (((Lib.decodeN (s.size - i) (B s i) (B s (i + 1)) (B s (i + 2)) (B s (i + 3))).2 : Int), ((if (Lib.decodeN (s.size - i) (B s i) (B s (i + 1)) (B s (i + 2)) (B s (i + 3))).1 ≥ 65536 then 2 else 1 : Nat) : Int)) := by
                  unfold fin Lib.decodeN
                  rw [if_neg (c := B s i < 128) (by omega), if_neg (c := B s i / 32 = 6 ∧ _) (by omega), if_neg (c := B s i / 16 = 14 ∧ _) (by omega), if_pos (c := B s i / 8 = 30 ∧ _) (by omega)]
                  split
                  · rw [if_neg (by omega)]; rfl
                  · rw [if_pos (by omega), if_pos (by omega)]
                    simp only
                    rw [if_pos (by omega)]
                    rfl
                rw [← e]
                exact this
              · unfold Lib.decodeN
                rw [if_neg (by omega), if_neg (by omega), if_neg (by omega), if_neg (by omega)]
                rfl
            · unfold Lib.decodeN
              rw [if_neg (by omega), if_neg (by omega), if_neg (by omega), if_neg (by omega)]
              rfl
          · unfold Lib.decodeN
            rw [if_neg (by omega), if_neg (by omega), if_neg (by omega), if_neg (by omega)]
            rfl
      · have e : (((Lib.decodeN (s.size - i) (B s i) (B s (i + 1)) (B s (i + 2)) (B s (i + 3))).2 : Int), ((if (Lib.decodeN (s.size - i) (B s i) (B s (i + 1)) (B s (i + 2)) (B s (i + 3))).1 ≥ 65536 then 2 else 1 : Nat) : Int)) = (1, 1) := by
          unfold Lib.decodeN
          by_cases b : B s i < 128
          · rw [if_pos b]
            simp only
            rw [if_neg (by omega)]
            rfl
          · rw [if_neg b]
            by_cases b1 : B s i / 32 = 6 ∧ (1 < s.size - i ∧ B s (i + 1) / 64 = 2)
            · rw [if_pos b1, if_neg (by omega)]; rfl
            · rw [if_neg b1, if_neg (c := B s i / 16 = 14 ∧ _) (by omega)]
              by_cases b2 : B s i / 8 = 30 ∧ (1 < s.size - i ∧ B s (i + 1) / 64 = 2) ∧ (2 < s.size - i ∧ B s (i + 2) / 64 = 2) ∧ (3 < s.size - i ∧ B s (i + 3) / 64 = 2)
              · rw [if_pos b2, if_neg (by omega)]; rfl
              · rw [if_neg b2]; rfl
        rw [e]
        by_cases c : (B s i : Int) ≥ 194
        · refine Ev.pos c ?_
          rw [decide_eq_false (by omega : ¬ (B s i : Int) ≤ 223)]
          refine Ev.shift ?_
          simp only [marginaliaref02_Char.j0]
          refine Ev.neg (by decide) (Ev.pos (by omega) ?_)
          rw [decide_eq_false (by omega : ¬ (B s i : Int) ≤ 239)]
          refine Ev.shift ?_
          simp only [marginaliaref02_Char.j1]
          exact Ev.neg (by decide) (Ev.pos (by omega) (Ev.neg (by omega) (Ev.now _)))
        · refine Ev.neg c (Ev.shift ?_)
          simp only [marginaliaref02_Char.j0]
          refine Ev.neg (by decide) (Ev.neg (by omega) (Ev.shift ?_))
          simp only [marginaliaref02_Char.j1]
          exact Ev.neg (by decide) (Ev.neg (by omega) (Ev.now _))
set_option maxHeartbeats 1000000 in
/-- step, of the text from a place up to a line feed or its end. -/
theorem step_cut (s : ByteArray) (i e : Nat) (hi : i < e) (he : e ≤ s.size) (h : e = s.size ∨ B s e = 10) : place_step.f (s.extract i e) = some ((dn s i : Int), (dw s i : Int)) := by
  have hz : (s.extract i e).size = e - i := by rw [ByteArray.size_extract]; omega
  have hB : ∀ j, i + j < e → B (s.extract i e) j = B s (i + j) := by
    intro j hj
    unfold B
    rw [Utf8W.get!_of_lt (s.extract i e) j (by omega), Utf8W.get!_of_lt s (i + j) (by omega)]
    simp [ByteArray.getElem_extract]
  have key : Lib.decodeGo (s.extract i e) = dc s i := by
    unfold Lib.decodeGo
    rw [if_neg (by omega)]
    have := dc_eq (s.extract i e) 0
    unfold dc at this
    rw [this, dc_eq, hz]
    have e0 := hB 0 (by omega)
    simp only [Nat.add_zero, Nat.zero_add, Nat.sub_zero] at e0 ⊢
    rw [e0]
    have g : e - i = s.size - i ∨ (e - i = 1 → B s (i + 1) = 10) ∧ (e - i = 2 → B s (i + 2) = 10) ∧ (e - i = 3 → B s (i + 3) = 10) := by
      rcases h with h | h
      · left; omega
      · right
        refine ⟨fun g => ?_, fun g => ?_, fun g => ?_⟩
        · have q : e = i + 1 := by omega
          rw [q] at h; exact h
        · have q : e = i + 2 := by omega
          rw [q] at h; exact h
        · have q : e = i + 3 := by omega
          rw [q] at h; exact h
    have hc := decodeN_cut (s.size - i) (e - i) (B s i) (B s (i + 1)) (B s (i + 2)) (B s (i + 3)) (B (s.extract i e) 1) (B (s.extract i e) 2) (B (s.extract i e) 3) (by omega) (by omega) (fun h => hB 1 (by omega)) (fun h => hB 2 (by omega)) (fun h => hB 3 (by omega)) g
    exact hc
  unfold place_step.f
  rw [key]
  unfold dn dw
  congr 2
  by_cases c : (dc s i).1 ≥ 65536
  · rw [if_pos c, if_pos (by omega)]; rfl
  · rw [if_neg c, if_neg (by omega)]; rfl
end Go.Proofs.YtbioehoeoalalaaDoor.P
