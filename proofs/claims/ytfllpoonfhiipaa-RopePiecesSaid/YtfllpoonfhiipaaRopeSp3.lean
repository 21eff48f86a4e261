/- What Edit's pieces are; Invert of Invert. -/
import Derived.Test.YtfllpoonfhiipaaRopeSp
import Derived.Test.YtfllpoonfhiipaaRopeE2
set_option linter.unusedVariables false
namespace Go.Proofs.Ytfllpoonfhiipaa.Pure
open Go.RowKit Go.Proofs.Ytfllpoonfhiipaa Go.Proofs.Ytfllpoonfhiipaa.P Go.Proofs.Ytfllpoonfhiipaa.Rope Go.Proofs.YtfllpoonfhiipaaW.PrintWords Go.Proofs.YtfllpoonfhiipaaW.PrintLast Go.Proofs.YtfllpoonfhiipaaW.PrintMore
theorem txt_cons (s : ByteArray) (r : List ByteArray) : txt (s :: r) = s.data.toList ++ txt r := by simp [txt]
theorem txt_append (a b : List ByteArray) : txt (a ++ b) = txt a ++ txt b := by simp [txt]
theorem ext_list (s : ByteArray) (a b : Nat) : (s.extract a b).data.toList = (s.data.toList.take b).drop a := by
  simp [ByteArray.data_extract, Array.toList_extract, List.extract_eq_take_drop, List.drop_take]
theorem txt_cutP (a b : Int) (ha : 0 ≤ a) : ∀ (ps : List ByteArray) (p : Int), 0 ≤ p → txt (cutP a b p ps) = ((txt ps).take (b - p).toNat).drop (a - p).toNat
  | [], p, hp => by simp [cutP, txt]
  | s :: r, p, hp => by
    have ih := txt_cutP a b ha r (p + s.size) (by omega)
    have hsz : s.data.toList.length = s.size := Ut.size_data s
    rw [txt_cons, List.take_append, List.drop_append, hsz, List.length_take, hsz]
    have e1 : (b - (p + s.size)).toNat = (b - p).toNat - s.size := by omega
    have e2 : (a - (p + s.size)).toNat = (a - p).toNat - s.size := by omega
    rw [e1, e2] at ih
    simp only [cutP]
    by_cases hb : (s.size : Int) < b - p
    · rw [if_pos hb]
      have m1 : min (b - p).toNat s.size = s.size := by omega
      rw [m1]
      by_cases hx : (if a - p < 0 then 0 else a - p) < (s.size : Int)
      · rw [if_pos hx, txt_cons, ih, ext_list]
        have e3 : (if a - p < 0 then (0 : Int) else a - p).toNat = (a - p).toNat := by split <;> omega
        rw [e3]
        congr 2
        rw [List.take_of_length_le (by omega), List.take_of_length_le (by omega)]
      · rw [if_neg hx, ih, show (s.data.toList.take (b - p).toNat).drop (a - p).toNat = [] from List.drop_of_length_le (by rw [List.length_take, hsz]; revert hx; split <;> omega)]
        simp
    · rw [if_neg hb]
      have m1 : min (b - p).toNat s.size = (b - p).toNat := by omega
      have z1 : (b - p).toNat - s.size = 0 := by omega
      rw [z1, List.take_zero, List.drop_nil] at ih
      rw [m1, z1, List.take_zero, List.drop_nil, List.append_nil]
      by_cases hx : (if a - p < 0 then 0 else a - p) < b - p
      · rw [if_pos hx, txt_cons, ih, ext_list, List.append_nil]
        have e3 : (if a - p < 0 then (0 : Int) else a - p).toNat = (a - p).toNat := by split <;> omega
        rw [e3]
      · rw [if_neg hx, ih, List.drop_of_length_le (by rw [List.length_take, hsz]; revert hx; split <;> omega)]
theorem txt_cut0 (a b : Int) (ha : 0 ≤ a) (ps : List ByteArray) : txt (cutP a b 0 ps) = cutS (ba (txt ps)) a b := by
  rw [txt_cutP a b ha ps 0 (by omega), cutS_eq, ba_list]
  simp
theorem txt_editP (ps : List ByteArray) : ∀ (l : List Ed) (p : Int), sp (tot ps) p l = true → 0 ≤ p → txt (editP ps (tot ps) p l) = app (ba (txt ps)) p l
  | [], p, h, hp => by
    have e : ((ba (txt ps)).size : Int) = tot ps := by rw [ba_size, txt_length]
    simp only [editP, app]
    rw [txt_cut0 _ _ hp, e]
  | e :: r, p, h, hp => by
    obtain ⟨h1, h2, h3, h4⟩ := sp_cons h
    simp only [editP, app]
    rw [txt_append, txt_append, txt_cut0 _ _ hp, txt_editP ps r e.f1 h4 (by omega)]
    congr 2
    by_cases hz : e.f2.size = 0
    · rw [if_pos hz]
      have : e.f2.data.toList.length = 0 := by rw [Ut.size_data]; exact hz
      rw [List.length_eq_zero_iff.mp this]
      simp [txt]
    · rw [if_neg hz]; simp [txt]
theorem tot_txt (ps : List ByteArray) : tot ps = (ba (txt ps)).size := by rw [ba_size, txt_length]
theorem inv_sp (s : ByteArray) (m : Int) : ∀ (l : List Ed) (p b : Int), sp s.size p l = true → 0 ≤ p → p ≤ s.size → m = s.size + b - spanSum l + newSum l → sp m (p + b) (inv s b l) = true
  | [], _, _, _, _, _, _ => rfl
  | e :: r, p, b, h, hp, hq, hm => by
    obtain ⟨h1, h2, h3, h4⟩ := sp_cons h
    have ih := inv_sp s m r e.f1 (b + grow e) h4 (by omega) (by omega) (by rw [spanSum_cons, newSum_cons] at hm; unfold grow; omega)
    have h5 := span_le h4 (by omega)
    rw [spanSum_cons, newSum_cons] at hm
    have e1 : e.f0 + b + (e.f2.size : Int) = e.f1 + (b + grow e) := by unfold grow; omega
    simp only [inv, sp, Bool.and_eq_true, decide_eq_true_eq]
    refine ⟨by omega, by omega, by omega, ?_⟩
    rw [e1]
    exact ih
theorem inv_sums (s : ByteArray) : ∀ (l : List Ed) (p b : Int), sp s.size p l = true → 0 ≤ p → p ≤ s.size → spanSum (inv s b l) = newSum l ∧ (newSum (inv s b l) : Int) = spanSum l
  | [], _, _, _, _, _ => by simp [inv, spanSum, newSum]
  | e :: r, p, b, h, hp, hq => by
    obtain ⟨h1, h2, h3, h4⟩ := sp_cons h
    obtain ⟨i1, i2⟩ := inv_sums s r e.f1 (b + grow e) h4 (by omega) (by omega)
    have hz : (s.extract e.f0.toNat e.f1.toNat).size = e.f1.toNat - e.f0.toNat := by rw [ByteArray.size_extract]; omega
    simp only [inv]
    rw [spanSum_cons, newSum_cons, spanSum_cons, newSum_cons, i1]
    constructor
    · push_cast; omega
    · push_cast
      rw [i2, hz]
      omega
theorem cutS_at (s t : ByteArray) (q : Int) (x : List UInt8) (y : List UInt8) (hq : 0 ≤ q) (h : t.data.toList.drop q.toNat = x ++ y) : cutS t q (q + x.length) = x := by
  rw [cutS_eq, List.drop_take, h]
  have : (q + x.length).toNat - q.toNat = x.length := by omega
  rw [this]
  simp
theorem inv_app (s t : ByteArray) : ∀ (l : List Ed) (p b : Int), sp s.size p l = true → 0 ≤ p → p ≤ s.size → 0 ≤ p + b → t.data.toList.drop (p + b).toNat = app s p l → app t (p + b) (inv s b l) = s.data.toList.drop p.toNat ∧ inv t (-b) (inv s b l) = l
  | [], p, b, h, hp, hq, hb, ht => by
    refine ⟨?_, rfl⟩
    simp only [inv, app]
    rw [cutS_eq, List.take_of_length_le (by rw [Ut.size_data]; omega), ht]
    simp only [app]
    rw [cutS_eq, List.take_of_length_le (by rw [Ut.size_data]; omega)]
  | e :: r, p, b, h, hp, hq, hb, ht => by
    obtain ⟨h1, h2, h3, h4⟩ := sp_cons h
    simp only [app] at ht
    have l1 : ((cutS s p e.f0).length : Int) = e.f0 - p := by rw [cutS_length]; omega
    have l2 : (e.f2.data.toList.length : Int) = e.f2.size := by rw [Ut.size_data]
    have e1 : e.f0 + b + (e.f2.size : Int) = e.f1 + (b + grow e) := by unfold grow; omega
    have d1 : t.data.toList.drop (e.f0 + b).toNat = e.f2.data.toList ++ app s e.f1 r := by
      have := congrArg (List.drop (cutS s p e.f0).length) ht
      rw [List.drop_drop, List.append_assoc, List.drop_left] at this
      rw [← this]
      congr 1
      omega
    have d2 : t.data.toList.drop (e.f1 + (b + grow e)).toNat = app s e.f1 r := by
      have := congrArg (List.drop e.f2.data.toList.length) d1
      rw [List.drop_drop, List.drop_left] at this
      rw [← this]
      congr 1
      omega
    obtain ⟨i1, i2⟩ := inv_app s t r e.f1 (b + grow e) h4 (by omega) (by omega) (by omega) d2
    have c1 : cutS t (p + b) (e.f0 + b) = cutS s p e.f0 := by
      have := cutS_at s t (p + b) (cutS s p e.f0) (e.f2.data.toList ++ app s e.f1 r) hb (by rw [ht, List.append_assoc])
      rw [← this]
      congr 1
      omega
    have c2 : cutS t (e.f0 + b) (e.f0 + b + e.f2.size) = e.f2.data.toList := by
      have := cutS_at s t (e.f0 + b) e.f2.data.toList (app s e.f1 r) (by omega) d1
      rw [l2] at this
      exact this
    constructor
    · simp only [inv, app]
      rw [c1, e1, i1, cutS_eq, ext_list]
      have : s.data.toList.drop p.toNat = (s.data.toList.take e.f0.toNat).drop p.toNat ++ ((s.data.toList.take e.f1.toNat).drop e.f0.toNat ++ s.data.toList.drop e.f1.toNat) := by
        have g : ∀ (l : List UInt8) (i j : Nat), i ≤ j → l.drop i = (l.take j).drop i ++ l.drop j := by
          intro l i j hij
          rw [List.drop_take]
          conv => lhs; rw [← List.take_append_drop (j - i) (l.drop i)]
          rw [List.drop_drop]
          congr 2
          omega
        rw [g s.data.toList p.toNat e.f0.toNat (by omega), g s.data.toList e.f0.toNat e.f1.toNat (by omega)]
      rw [this, List.append_assoc]
    · simp only [inv]
      have z : (s.extract e.f0.toNat e.f1.toNat).size = e.f1.toNat - e.f0.toNat := by rw [ByteArray.size_extract]; omega
      have g : -b + grow ⟨e.f0 + b, e.f0 + b + e.f2.size, s.extract e.f0.toNat e.f1.toNat⟩ = -(b + grow e) := by
        simp only [grow, z]
        omega
      rw [g, i2]
      have x2 : t.extract (e.f0 + b).toNat (e.f0 + b + e.f2.size).toNat = e.f2 := by
        have := congrArg ba c2
        simp only [cutS] at this
        rw [list_ba, list_ba] at this
        exact this
      rw [x2]
      have a0 : e.f0 + b + -b = e.f0 := by omega
      have a1 : e.f0 + b + -b + ((s.extract e.f0.toNat e.f1.toNat).size : Int) = e.f1 := by rw [z]; omega
      rw [a1, a0]
theorem chk_of {n : Int} {l : List Ed} (h1 : n ≤ 20000) (h2 : l.length ≤ 100) (h3 : sp n 0 l = true) (h4 : n - spanSum l + newSum l ≤ 20000) : chk n l = 0 := by
  unfold chk
  rw [if_neg (by omega), if_neg (by omega), if_pos h3, if_neg (by omega)]
theorem back (s : ByteArray) (l : List Ed) (h : chk s.size l = 0) : chk (ba (app s 0 l)).size (inv s 0 l) = 0 ∧ ba (app (ba (app s 0 l)) 0 (inv s 0 l)) = s ∧ inv (ba (app s 0 l)) 0 (inv s 0 l) = l ∧ Fit (inv s 0 l) ∧ (ba (app s 0 l)).size ≤ 20000 := by
  obtain ⟨h1, h2, h3, h4⟩ := chk_ok h
  have hl := app_length s l 0 h3 (by omega) (by omega)
  obtain ⟨s1, s2⟩ := inv_sums s l 0 0 h3 (by omega) (by omega)
  have hle := span_le h3 (by omega)
  have hsz : ((ba (app s 0 l)).size : Int) = s.size - spanSum l + newSum l := by rw [ba_size]; omega
  obtain ⟨i1, i2⟩ := inv_app s (ba (app s 0 l)) l 0 0 h3 (by omega) (by omega) (by omega) (by rw [ba_list]; rfl)
  refine ⟨chk_of (by omega) (by rw [inv_length]; exact h2) (by have := inv_sp s (ba (app s 0 l)).size l 0 0 h3 (by omega) (by omega) (by omega); exact this) (by rw [s1, s2]; omega), ?_, i2, ⟨by rw [inv_length]; omega, by omega⟩, by omega⟩
  have i3 : app (ba (app s 0 l)) 0 (inv s 0 l) = s.data.toList := i1
  rw [i3, list_ba]
end Go.Proofs.Ytfllpoonfhiipaa.Pure
