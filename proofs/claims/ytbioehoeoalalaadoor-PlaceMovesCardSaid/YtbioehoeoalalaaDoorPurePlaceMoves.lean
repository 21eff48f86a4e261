/- Moved returns the place behind any edits of a place, or the error, of the specification: the law returns true. -/
import Derived.Test.YtbioehoeoalalaaDoorPlaceRp
import Derived.Test.YtbioehoeoalalaaDoorPx22
set_option linter.unusedVariables false
set_option linter.unusedSimpArgs false
namespace Go.Proofs.YtbioehoeoalalaaDoor.Pure
open Go.RowKit Go.Proofs.YtbioehoeoalalaaDoor Go.Proofs.YtbioehoeoalalaaDoor.P Go.Proofs.YtbioehoeoalalaaDoorW.PrintWords Go.Proofs.YtbioehoeoalalaaDoorW.PrintLast Go.Proofs.YtbioehoeoalalaaDoorW.PrintMore
theorem sp_mono {m m' : Int} (h : m ≤ m') : ∀ (l : List Ed) (p : Int), sp m p l = true → sp m' p l = true := by
  intro l
  induction l with
  | nil => intro p _; rfl
  | cons e r ih =>
    intro p hs
    obtain ⟨h1, h2, h3, h4⟩ := sp_cons hs
    have := ih e.f1 h4
    simp only [sp]
    rw [decide_eq_true h1, decide_eq_true h2, decide_eq_true (show e.f1 ≤ m' by omega), this]
    rfl
theorem mv_range (m o : Int) (ho : o ≤ m) : ∀ (l : List Ed) (p b : Int), sp m p l = true → 0 ≤ p → p ≤ o → -p ≤ b → 0 ≤ mv o true b l ∧ mv o true b l ≤ m + b - spanSum l + newSum l := by
  intro l
  induction l with
  | nil =>
    intro p b hs h0 h1 h2
    simp only [mv, spanSum, newSum, List.map_nil, List.sum_nil]
    omega
  | cons e r ih =>
    intro p b hs h0 h1 h2
    obtain ⟨g1, g2, g3, g4⟩ := sp_cons hs
    have hsr := span_le g4 g3
    rw [spanSum_cons, newSum_cons]
    simp only [mv]
    by_cases c : e.f0 > o ∨ e.f0 = o ∧ e.f1 > o ∨ e.f0 = o ∧ e.f1 = o ∧ true = false
    · rw [if_pos c]
      have : o ≤ e.f0 := by
        rcases c with c | c | c
        · omega
        · omega
        · exact absurd c.2.2 (by decide)
      omega
    · rw [if_neg c]
      by_cases c2 : e.f1 > o
      · rw [if_pos c2]
        have : e.f0 ≤ o := by
          rcases Int.lt_or_le o e.f0 with h | h
          · exact absurd (.inl h) c
          · exact h
        omega
      · rw [if_neg c2]
        have := ih e.f1 (b + grow e) g4 (by omega) (by omega) (by unfold grow; omega)
        unfold grow at this ⊢
        omega
theorem moved_loop (s : ByteArray) (hs : s.size ≤ 20000) (l : List Bool) (hl : l.length = s.size + 1) (hb : ∀ off : Nat, off ≤ s.size → rdOf false l (off : Int) = decide (hit s 0 off)) : ∀ (n : Nat), n ≤ s.size →
    ∃ x y : Int, Ev (fun k => place_Moved.l0 k (n : Int) s) (x, y, 0) ∧ Ev (fun k => marginaliaref02_Moved.l0 k s (n : Int) l) (x, y) := by
  intro n
  induction n with
  | zero =>
    intro hn
    obtain ⟨f, hf⟩ := Lf_ex s 0 hn
    have F := Of_ev s 0 f hs hn hf
    have R := rof_ev s 0 f (by omega) hn hf (hit_self s 0)
    rw [if_pos (hit_self s 0)] at F
    have b := hb 0 hn
    rw [decide_eq_true (hit_self s 0)] at b
    refine ⟨(nls s 0 : Int), ((wk s 0 f 0).2 : Int), Ev.shift ?_, Ev.shift ?_⟩
    · simp only [place_Moved.l0]
      exact Ev.bind F (Ev.pos rfl (Ev.now _))
    · simp only [marginaliaref02_Moved.l0]
      exact Ev.pos (by omega) (Ev.pos (by omega) (Ev.pos b (Ev.bind R (Ev.now _))))
  | succ n ih =>
    intro hn
    obtain ⟨f, hf⟩ := Lf_ex s (n + 1) hn
    have F := Of_ev s (n + 1) f hs hn hf
    have b := hb (n + 1) hn
    by_cases hh : hit s 0 (n + 1)
    · have R := rof_ev s (n + 1) f (by omega) hn hf hh
      rw [if_pos hh] at F
      rw [decide_eq_true hh] at b
      refine ⟨(nls s (n + 1) : Int), ((wk s (n + 1) f 0).2 : Int), Ev.shift ?_, Ev.shift ?_⟩
      · simp only [place_Moved.l0]
        exact Ev.bind F (Ev.pos rfl (Ev.now _))
      · simp only [marginaliaref02_Moved.l0]
        exact Ev.pos (by omega) (Ev.pos (by omega) (Ev.pos b (Ev.bind R (Ev.now _))))
    · rw [if_neg hh] at F
      rw [decide_eq_false hh] at b
      obtain ⟨x, y, I1, I2⟩ := ih (by omega)
      have e : wrap64 (((n + 1 : Nat) : Int) - 1) = (n : Int) := by rw [w64 (by omega) (by omega)]; omega
      refine ⟨x, y, Ev.shift ?_, Ev.shift ?_⟩
      · simp only [place_Moved.l0]
        rw [e]
        exact Ev.bind F (Ev.neg (by decide) I1)
      · simp only [marginaliaref02_Moved.l0]
        rw [e]
        exact Ev.pos (by omega) (Ev.pos (by omega) (Ev.neg (by rw [b]; decide) I2))
theorem fnd_le (s : ByteArray) (e : Nat) (col : Int) (he : Stop s e) : ∀ (d i c : Nat), i ≤ e → (fnd s e col d i c).1 ≤ e := by
  intro d
  induction d with
  | zero => intro i c hi; exact hi
  | succ d ih =>
    intro i c hi
    simp only [fnd]
    split
    · rename_i h
      split
      · exact hi
      · exact ih _ _ (he.next h.1)
    · exact hi
theorem offs_le (s : ByteArray) (line col : Int) (o : Nat) (h : offs s line col = some o) : o ≤ s.size := by
  unfold offs at h
  by_cases hb : line < 0 ∨ line ≥ ((lns s).length : Int) ∨ col < 0
  · rw [if_pos hb] at h; cases h
  rw [if_neg hb] at h
  obtain ⟨n, rfl⟩ : ∃ n : Nat, line = n := ⟨line.toNat, by omega⟩
  obtain ⟨a, e, q1, q2, q3⟩ := lns_form s n (by omega)
  have hg : (lns s).getD n ⟨0, 0⟩ = ⟨(a : Int), (e : Int)⟩ := by rw [List.getD_eq_getElem?_getD, q1]; rfl
  have e3 : ((n : Int)).toNat = n := rfl
  have e4 : ((a : Int)).toNat = a := rfl
  have e5 : ((e : Int)).toNat = e := rfl
  simp only [e3, hg, e4, e5] at h
  split at h
  · have := Option.some.inj h
    have h2 := fnd_le s e col q3 (e - a) a 0 q2
    have := q3.1
    omega
  · cases h
theorem PlaceMoves0 (a0 : ByteArray) (x y : Int) (l : List Ed) (hl : l.length ≤ 9223372036854775807 ∧ ∀ a ∈ l, ok73 a) : ∃ k, marginalialaw02_PlaceMoves.f k a0 x y l = some true := by
  apply Ev.rounds
  have hz := short_size a0
  have hf : Fit (cut 2000 l) := (cut_fine hl.2).fit (by omega)
  unfold marginalialaw02_PlaceMoves.f
  refine Ev.bind1 (Short_eq a0) (Ev.bind (Cut_ev l 2000 hl.1) ?_)
  generalize short a0 = s at hz ⊢
  generalize cut 2000 l = t at hf ⊢
  have AL : Ev (fun k => (marginalialaw02_alive.f k).bind fun t => (some t)) true := Ev.bind alive_ev (Ev.now _)
  have bad : ∀ (e : Int) (o : Int), e ≠ 0 → Ev (fun k => marginalialaw02_PlaceMoves.j0 k s t e o e 0 0) true := by
    intro e o he
    refine Ev.shift ?_
    simp only [marginalialaw02_PlaceMoves.j0]
    exact Ev.neg he (Ev.pos (by simp) (Ev.pos (by trivial) AL))
  by_cases hL : s.size > 20000
  · obtain ⟨q, hq⟩ := rOffset_ev s x y hz
    have M : Ev (fun k => place_Moved.f k s x y t) (0, 0, 3) := by
      unfold place_Moved.f
      exact Ev.bind (Offset_long s x y hL) (Ev.neg (by simp) (Ev.now _))
    exact Ev.bind M (Ev.bind hq (Ev.pos (by omega) (bad 3 _ (by decide))))
  · have hs : s.size ≤ 20000 := by omega
    obtain ⟨q, hq⟩ := rOffset_ev s x y hz
    have O := Offset_ev s x y hs
    cases ho : offs s x y with
    | none =>
      rw [ho] at O hq
      have M : Ev (fun k => place_Moved.f k s x y t) (0, 0, 2) := by
        unfold place_Moved.f
        exact Ev.bind O (Ev.neg (by simp [ans]) (Ev.now _))
      exact Ev.bind M (Ev.bind hq (Ev.neg (by omega) (Ev.neg (by simp) (bad 2 _ (by decide)))))
    | some o =>
      rw [ho] at O hq
      have hos := offs_le s x y o ho
      have A := apply_ev s t (by omega) hf
      have C := rcheck_ev s t (by omega) hf
      by_cases hc : chk s.size t = 0
      · obtain ⟨h1, h2, h3, h4⟩ := chk_ok hc
        have hsp := sp_mono (show (s.size : Int) ≤ 20000 by omega) t 0 h3
        have hmv := mv_range s.size o (by omega) t 0 0 h3 (by omega) (by omega) (by omega)
        have hal := app_length s t 0 h3 (by omega) (by omega)
        have he : mvErr t o = 0 := by
          unfold mvErr
          rw [if_neg (by omega), if_pos hsp, if_neg (by omega)]
        have Mv := move_ev t o true hf
        rw [if_pos he, he] at Mv
        rw [hc, if_pos rfl] at A
        rw [hc] at C
        have RA := rapply_ev s t hc
        have hN := hf.2
        have RM : Ev (fun k => marginaliaref01_Move.f k t (o : Int) true) (mv o true 0 t) := by
          unfold marginaliaref01_Move.f
          exact rmove_loop o true t hf.1 (by omega) (by omega) t 0 0 0 rfl hsp (by omega) (by omega) (by omega) (by omega)
        have hnz : (ba (app s 0 t)).size ≤ 20000 := by rw [ba_size]; omega
        have hmn : mv o true 0 t ≤ (ba (app s 0 t)).size := by rw [ba_size]; omega
        generalize ba (app s 0 t) = next at A RA hnz hmn
        generalize mv o true 0 t = m at Mv RM hmv hmn
        obtain ⟨n, rfl⟩ : ∃ n : Nat, m = n := ⟨m.toNat, by omega⟩
        obtain ⟨bl, B1, B2, B3⟩ := Begins_ev next (by omega)
        obtain ⟨px, py, I1, I2⟩ := moved_loop next hnz bl B2 B3 n (by omega)
        have M : Ev (fun k => place_Moved.f k s x y t) (px, py, 0) := by
          unfold place_Moved.f
          exact Ev.bind O (Ev.pos rfl (Ev.bind A (Ev.pos rfl (Ev.bind Mv I1))))
        have R : Ev (fun k => marginaliaref02_Moved.f k s (o : Int) t) (px, py) := by
          unfold marginaliaref02_Moved.f
          exact Ev.bind RA (Ev.bind RM (Ev.bind B1 I2))
        refine Ev.bind M (Ev.bind hq (Ev.neg (by omega) (Ev.pos (by simp) (Ev.bind C (Ev.shift ?_)))))
        simp only [marginalialaw02_PlaceMoves.j0]
        exact Ev.pos (by trivial) (Ev.bind R (Ev.pos (by simp) (Ev.pos (by trivial) AL)))
      · rw [if_neg hc] at A
        have M : Ev (fun k => place_Moved.f k s x y t) (0, 0, chk s.size t) := by
          unfold place_Moved.f
          exact Ev.bind O (Ev.pos rfl (Ev.bind A (Ev.neg hc (Ev.now _))))
        exact Ev.bind M (Ev.bind hq (Ev.neg (by omega) (Ev.pos (by simp) (Ev.bind C (bad _ _ hc)))))
theorem PlaceMoves : ∀ (a0 : ByteArray) (a1 : S23) (a2 : List (S73)), OpG.okS a0 → ok23 a1 → (fun l => l.length ≤ 9223372036854775807 ∧ ∀ a ∈ l, ok73 a) a2 → ∃ k, marginalialaw02_PlaceMoves.f k a0 a1.f0 a1.f1 a2 = some true := fun a0 a1 a2 _ _ h => PlaceMoves0 a0 a1.f0 a1.f1 a2 h
end Go.Proofs.YtbioehoeoalalaaDoor.Pure
