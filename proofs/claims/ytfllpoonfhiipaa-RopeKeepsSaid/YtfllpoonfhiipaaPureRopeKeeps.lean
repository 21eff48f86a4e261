/- Move never changes the order of two offsets, and bytes between two offsets that no edit's span meets are the same after it: the law returns true. -/
import Derived.Test.YtfllpoonfhiipaaRopeSp2
set_option linter.unusedVariables false
namespace Go.Proofs.Ytfllpoonfhiipaa.Pure
open Go.RowKit Go.Proofs.Ytfllpoonfhiipaa Go.Proofs.Ytfllpoonfhiipaa.P Go.Proofs.YtfllpoonfhiipaaW.PrintWords
theorem sp_wider {m m' : Int} (hm : m ≤ m') : ∀ {l : List Ed} {p : Int}, sp m p l = true → sp m' p l = true
  | [], _, _ => rfl
  | e :: r, p, h => by
    obtain ⟨h1, h2, h3, h4⟩ := sp_cons h
    simp only [sp]
    rw [decide_eq_true h1, decide_eq_true h2, decide_eq_true (by omega), sp_wider hm h4]
    rfl
theorem keeps_loop (s : ByteArray) (l : List Ed) (x : ByteArray) (a b m n : Int) (hl : l.length ≤ 102) (hm : 0 ≤ m) (hmn : m ≤ n) (hn : n ≤ x.size) (ha : 0 ≤ a) (hab : a ≤ b) (hb : b ≤ s.size)
    (fin : Apart a b l → (x.extract m.toNat n.toNat).toList = (s.extract a.toNat b.toNat).toList) : ∀ (r : List Ed) (i : Nat), l.drop i = r → (∀ e ∈ l.take i, e.f1 < a ∨ b < e.f0) →
    Ev (fun k => marginalialaw01_RopeKeeps.l0 k s l x a b m n (i : Int)) true := by
  intro r
  induction r with
  | nil =>
    intro i hd hA
    have h1 := le_of_nil hd
    refine Ev.shift ?_
    simp only [marginalialaw01_RopeKeeps.l0]
    rw [List.take_of_length_le h1] at hA
    exact Ev.neg (by omega) (Ev.pos hm (Ev.pos hmn (Ev.pos hn (Ev.pos ha (Ev.pos hab (Ev.pos hb (Ev.pos (fin hA) (Ev.bind1 (a := true) rfl (Ev.now _)))))))))
  | cons e r ih =>
    intro i hd hA
    have hlt := lt_of_drop hd
    refine Ev.shift ?_
    simp only [marginalialaw01_RopeKeeps.l0]
    rw [rd_at hd]
    refine Ev.pos (by omega) (Ev.pos (by omega) ?_)
    by_cases g : e.f0 ≤ b ∧ a ≤ e.f1
    · refine Ev.bind1 (a := true) ?_ (Ev.pos rfl (Ev.bind1 (a := true) rfl (Ev.now _)))
      unfold marginaliaref01_Touch.f
      rw [if_pos g.1, decide_eq_true g.2]
    · refine Ev.bind1 (a := false) ?_ (Ev.neg (by simp) ?_)
      · unfold marginaliaref01_Touch.f
        by_cases g1 : e.f0 ≤ b
        · rw [if_pos g1, decide_eq_false (fun h => g ⟨g1, h⟩)]
        · rw [if_neg g1]
      · rw [w64 (by omega) (by omega)]
        refine ih (i + 1) (drop_next hd) ?_
        intro y hy
        have hi : l[i]'hlt = e := by
          have h1 : l[i]? = some e := by
            have := congrArg (fun x : List Ed => x[0]?) hd
            simpa [List.getElem?_drop] using this
          rw [List.getElem?_eq_getElem hlt] at h1
          injection h1
        rw [List.take_succ_eq_append_getElem hlt, hi] at hy
        rcases List.mem_append.1 hy with h | h
        · exact hA y h
        · rw [List.mem_singleton.1 h]
          omega
theorem keeps_core (s : ByteArray) (l : List Ed) (after : Bool) (a b : Int) (hf : Fit l) (h : chk s.size l = 0) (ha : 0 ≤ a) (hab : a ≤ b) (hb : b ≤ s.size) :
    Ev (fun k => marginalialaw01_RopeKeeps.j0 k after s l (ba (app s 0 l)) a b) true := by
  obtain ⟨h1, h2, h3, h4⟩ := chk_ok h
  have hsp := sp_wider (m' := 20000) h1 h3
  have he : ∀ o : Int, 0 ≤ o → o ≤ 20000 → mvErr l o = 0 := by
    intro o h5 h6
    unfold mvErr
    rw [if_neg (by omega), if_pos hsp, if_neg (by omega)]
  have hlen := app_length s l 0 h3 (by omega) (by omega)
  have m1 := mv_low (o := a) (after := after) (b := 0) h3 ha
  have m2 := mv_mono (after := after) hab (b := 0) h3
  have m3 := mv_high (after := after) hb (b := 0) h3
  refine Ev.shift ?_
  simp only [marginalialaw01_RopeKeeps.j0]
  refine Ev.bind (move_ev l a after hf) (Ev.bind (move_ev l b after hf) ?_)
  simp only [he a (by omega) (by omega), he b (by omega) (by omega), if_true]
  refine Ev.neg (by omega) (Ev.neg (by omega) ?_)
  rw [ba_size, decide_eq_false (by omega)]
  refine Ev.shift ?_
  simp only [marginalialaw01_RopeKeeps.j1]
  refine Ev.neg (by simp) ?_
  refine keeps_loop s l _ a b _ _ hf.1 (by omega) m2 (by rw [ba_size]; omega) ha hab hb ?_ l 0 rfl (by simp)
  intro hA
  obtain ⟨k1, k2⟩ := mid_app s after hab hb l 0 0 h3 (by omega) ha hA
  rw [Lib.toList_data, Lib.toList_data]
  have e1 := cutS_eq (ba (app s 0 l)) (mv a after 0 l) (mv b after 0 l)
  rw [show ((ba (app s 0 l)).extract (mv a after 0 l).toNat (mv b after 0 l).toNat).data.toList = cutS (ba (app s 0 l)) (mv a after 0 l) (mv b after 0 l) from rfl, e1, ba_list, List.drop_take]
  rw [show (s.extract a.toNat b.toNat).data.toList = cutS s a b from rfl, ← k2]
  congr 1
  · omega
  · congr 1
    omega
theorem RopeKeeps : ∀ (a0 : ByteArray) (a1 : List (S47)) (a2 : Int) (a3 : Int) (a4 : Bool), OpG.okS a0 → (fun l => l.length ≤ 9223372036854775807 ∧ ∀ a ∈ l, ok47 a) a1 → (fun a => 0 ≤ a ∧ a ≤ 65535) a2 → (fun a => 0 ≤ a ∧ a ≤ 65535) a3 → ∃ k, marginalialaw01_RopeKeeps.f k a0 a1 a2 a3 a4 = some true := by
  intro a0 l a b after _ hl ha hb
  apply Ev.rounds
  have hf : Fit (cut 2000 l) := (cut_fine hl.2).fit (by omega)
  have hz := short_size a0
  unfold marginalialaw01_RopeKeeps.f
  refine Ev.bind1 (Short_eq a0) (Ev.bind (Cut_ev l 2000 hl.1) ?_)
  generalize cut 2000 l = t at hf ⊢
  generalize short a0 = s at hz ⊢
  refine Ev.bind (apply_ev s t (by omega) hf) ?_
  by_cases h : chk s.size t = 0
  · simp only [if_pos h]
    obtain ⟨h1, h2, h3, h4⟩ := chk_ok h
    rw [w64 (n := (s.size : Int) + 1) (by omega) (by omega), w64 (n := a) (by omega) (by omega), w64 (n := b) (by omega) (by omega)]
    refine Ev.neg (by omega) ?_
    rw [Int.tmod_eq_emod_of_nonneg ha.1, Int.tmod_eq_emod_of_nonneg hb.1]
    have p1 := Int.emod_nonneg a (b := (s.size : Int) + 1) (by omega)
    have p2 := Int.emod_lt_of_pos a (b := (s.size : Int) + 1) (by omega)
    have p3 := Int.emod_nonneg b (b := (s.size : Int) + 1) (by omega)
    have p4 := Int.emod_lt_of_pos b (b := (s.size : Int) + 1) (by omega)
    by_cases g : a % ((s.size : Int) + 1) > b % ((s.size : Int) + 1)
    · exact Ev.pos g (keeps_core s t after _ _ hf h p3 (by omega) (by omega))
    · exact Ev.neg g (keeps_core s t after _ _ hf h p1 (by omega) (by omega))
  · simp only [if_neg h]
    exact (Ev.bind1 (a := true) rfl (Ev.now _))
end Go.Proofs.Ytfllpoonfhiipaa.Pure
