/- Offset, Near, Span, Width, Lines, alive: what each comes to. -/
import Derived.Test.YtbioehoeoalalaaDoorPlaceSp6
import Derived.KernelRfl
set_option linter.unusedVariables false
set_option linter.unusedSimpArgs false
namespace Go.Proofs.YtbioehoeoalalaaDoor.P
open Go.RowKit Go.Proofs.YtbioehoeoalalaaDoorW.PrintWords Go.Proofs.YtbioehoeoalalaaDoorW.PrintLast Go.Proofs.YtbioehoeoalalaaDoorW.PrintMore
theorem alive_ev : Ev (fun k => marginalialaw02_alive.f k) true := Ev.of (fun k => marginalialaw02_alive.mono k) (k := 30) (by kernel_rfl)
def short (s : ByteArray) : ByteArray := s.extract 0 (min s.size 20001)
theorem mn_nat (a b : Nat) : mn (a : Int) (b : Int) = ((min a b : Nat) : Int) := by unfold mn; (repeat' split) <;> omega
theorem Short_eq (s : ByteArray) : marginaliaref01_Short.f s = some (short s) := by
  have h : mn (s.size : Int) 20001 = ((min s.size 20001 : Nat) : Int) := mn_nat s.size 20001
  unfold marginaliaref01_Short.f
  rw [h, if_pos (by omega), if_pos (by omega)]
  simp [short]
theorem short_size (s : ByteArray) : (short s).size ≤ 20001 := by
  unfold short
  rw [ByteArray.size_extract]
  omega
/-- The offset with a place, if there is one. -/
def offs (s : ByteArray) (line col : Int) : Option Nat :=
  if line < 0 ∨ line ≥ ((lns s).length : Int) ∨ col < 0 then none
  else
    let x := (lns s).getD line.toNat ⟨0, 0⟩
    let r := fnd s x.f1.toNat col (x.f1.toNat - x.f0.toNat) x.f0.toNat 0
    if (r.2 : Int) = col then some r.1 else none
def ans (o : Option Nat) : Int × Int := match o with | some a => (a, 0) | none => (0, 2)
theorem Offset_ev (s : ByteArray) (line col : Int) (hs : s.size ≤ 20000) : Ev (fun k => place_Offset.f k s line col) (ans (offs s line col)) := by
  unfold place_Offset.f offs
  refine Ev.neg (by omega) (Ev.bind (lines_ev s (by omega)) ?_)
  have J : ∀ b : Bool, b = true → Ev (fun k => place_Offset.j0 k s (lns s) b line col) (0, 2) := by
    intro b hb
    refine Ev.shift ?_
    simp only [place_Offset.j0]
    exact Ev.pos (by simp [hb]) (Ev.now _)
  by_cases h0 : line < 0
  · rw [if_pos (.inl h0)]
    exact Ev.pos h0 (J true rfl)
  · refine Ev.neg h0 ?_
    by_cases h1 : line ≥ ((lns s).length : Int)
    · rw [if_pos (.inr (.inl h1))]
      exact Ev.pos h1 (J true rfl)
    · refine Ev.neg h1 ?_
      by_cases h2 : col < 0
      · rw [if_pos (.inr (.inr h2)), decide_eq_true h2]
        exact J true rfl
      · rw [if_neg (by omega), decide_eq_false h2]
        obtain ⟨n, rfl⟩ : ∃ n : Nat, line = n := ⟨line.toNat, by omega⟩
        obtain ⟨a, e, hx, hae, hst⟩ := lns_form s n (by omega)
        have hg : (lns s).getD n ⟨0, 0⟩ = ⟨(a : Int), (e : Int)⟩ := by rw [List.getD_eq_getElem?_getD, hx]; rfl
        have hrd : rd_T39 (lns s) (n : Int) = ⟨(a : Int), (e : Int)⟩ := by
          unfold rd_T39
          have e2 : ((n : Int)).toNat = n := rfl
          rw [e2, List.getD_eq_getElem?_getD, hx]
          rfl
        have e3 : ((n : Int)).toNat = n := rfl
        simp only [e3, hg]
        have e4 : ((a : Int)).toNat = a := rfl
        have e5 : ((e : Int)).toNat = e := rfl
        simp only [e4, e5]
        refine Ev.shift ?_
        simp only [place_Offset.j0]
        refine Ev.neg (by decide) (Ev.pos (by omega) (Ev.pos (by omega) ?_))
        rw [hrd]
        simp only
        have hf := find_loop s e col a (by omega) hst (e - a) a 0 (Nat.le_refl _) hae (by omega)
        refine Ev.bind hf ?_
        simp only
        by_cases h3 : ((fnd s e col (e - a) a 0).2 : Int) = col
        · rw [if_pos h3]
          refine Ev.pos (by simpa using h3) (Ev.now _)
        · rw [if_neg h3]
          refine Ev.neg (by simpa using h3) (Ev.now _)
theorem rOffset_ev (s : ByteArray) (line col : Int) (hs : s.size ≤ 20001) : ∃ x : Int, Ev (fun k => marginaliaref02_Offset.f k s line col) (match offs s line col with | some a => ((a : Int), true) | none => (x, false)) := by
  unfold marginaliaref02_Offset.f offs
  have L := rlines_ev s (by omega)
  have J : ∀ b : Bool, b = true → Ev (fun k => marginaliaref02_Offset.j0 k s (lns s) b line col) (0, false) := by
    intro b hb
    refine Ev.shift ?_
    simp only [marginaliaref02_Offset.j0]
    exact Ev.pos (by simp [hb]) (Ev.now _)
  by_cases h0 : line < 0
  · rw [if_pos (.inl h0)]
    exact ⟨0, Ev.bind L (Ev.pos h0 (J true rfl))⟩
  · by_cases h1 : line ≥ ((lns s).length : Int)
    · rw [if_pos (.inr (.inl h1))]
      exact ⟨0, Ev.bind L (Ev.neg h0 (Ev.pos h1 (J true rfl)))⟩
    · by_cases h2 : col < 0
      · rw [if_pos (.inr (.inr h2))]
        refine ⟨0, Ev.bind L (Ev.neg h0 (Ev.neg h1 ?_))⟩
        rw [decide_eq_true h2]
        exact J true rfl
      · rw [if_neg (by omega)]
        obtain ⟨n, rfl⟩ : ∃ n : Nat, line = n := ⟨line.toNat, by omega⟩
        obtain ⟨a, e, hx, hae, hst⟩ := lns_form s n (by omega)
        have hg : (lns s).getD n ⟨0, 0⟩ = ⟨(a : Int), (e : Int)⟩ := by rw [List.getD_eq_getElem?_getD, hx]; rfl
        have hrd : rd_T39 (lns s) (n : Int) = ⟨(a : Int), (e : Int)⟩ := by
          unfold rd_T39
          have e2 : ((n : Int)).toNat = n := rfl
          rw [e2, List.getD_eq_getElem?_getD, hx]
          rfl
        have e3 : ((n : Int)).toNat = n := rfl
        simp only [e3, hg]
        have e4 : ((a : Int)).toNat = a := rfl
        have e5 : ((e : Int)).toNat = e := rfl
        simp only [e4, e5]
        have hr := rof_loop2 s (lns s) n e a col (by omega) hst (by omega) hx (e - a) a 0 (Nat.le_refl _) hae (by omega)
        obtain ⟨g1, g2⟩ := fnd_rof s e col (e - a) a 0
        refine ⟨((rof s e col (e - a) a 0).1 : Int), Ev.bind L (Ev.neg h0 (Ev.neg h1 ?_))⟩
        rw [decide_eq_false h2]
        refine Ev.shift ?_
        simp only [marginaliaref02_Offset.j0]
        refine Ev.neg (by decide) (Ev.pos (by omega) (Ev.pos (by omega) ?_))
        rw [hrd]
        simp only
        by_cases h3 : ((fnd s e col (e - a) a 0).2 : Int) = col
        · rw [if_pos h3]
          have q := g1.1 h3
          rw [show ((((rof s e col (e - a) a 0).2 : Nat) : Int) == col) = true from beq_iff_eq.mpr q, ← g2 h3] at hr
          exact hr
        · rw [if_neg h3]
          have q : ¬ ((rof s e col (e - a) a 0).2 : Int) = col := fun h => h3 (g1.2 h)
          rw [show ((((rof s e col (e - a) a 0).2 : Nat) : Int) == col) = false from beq_eq_false_iff_ne.mpr q] at hr
          exact hr
def near (s : ByteArray) (line col : Int) : Nat :=
  if line < 0 then 0 else if line ≥ ((lns s).length : Int) then s.size
  else
    let x := (lns s).getD line.toNat ⟨0, 0⟩
    (fnd s x.f1.toNat (if col < 0 then 0 else col) (x.f1.toNat - x.f0.toNat) x.f0.toNat 0).1
theorem mx0 (c : Int) : mx c 0 = if c < 0 then 0 else c := rfl
theorem Near_ev (s : ByteArray) (line col : Int) (hs : s.size ≤ 20000) : Ev (fun k => place_Near.f k s line col) ((near s line col : Int), 0) ∧ Ev (fun k => marginaliaref02_Near.f k s line col) (near s line col : Int) := by
  unfold place_Near.f marginaliaref02_Near.f near
  have L := lines_ev s (by omega)
  have L2 := rlines_ev s (by omega)
  by_cases h0 : line < 0
  · rw [if_pos h0]
    exact ⟨Ev.neg (by omega) (Ev.bind L (Ev.pos h0 (Ev.now _))), Ev.bind L2 (Ev.pos h0 (Ev.now _))⟩
  · rw [if_neg h0]
    by_cases h1 : line ≥ ((lns s).length : Int)
    · rw [if_pos h1]
      exact ⟨Ev.neg (by omega) (Ev.bind L (Ev.neg h0 (Ev.pos h1 (Ev.now _)))), Ev.bind L2 (Ev.neg h0 (Ev.pos h1 (Ev.now _)))⟩
    · rw [if_neg h1]
      obtain ⟨n, rfl⟩ : ∃ n : Nat, line = n := ⟨line.toNat, by omega⟩
      obtain ⟨a, e, hx, hae, hst⟩ := lns_form s n (by omega)
      have hg : (lns s).getD n ⟨0, 0⟩ = ⟨(a : Int), (e : Int)⟩ := by rw [List.getD_eq_getElem?_getD, hx]; rfl
      have hrd : rd_T39 (lns s) (n : Int) = ⟨(a : Int), (e : Int)⟩ := by
        unfold rd_T39
        have e2 : ((n : Int)).toNat = n := rfl
        rw [e2, List.getD_eq_getElem?_getD, hx]
        rfl
      have e3 : ((n : Int)).toNat = n := rfl
      simp only [e3, hg]
      have e4 : ((a : Int)).toNat = a := rfl
      have e5 : ((e : Int)).toNat = e := rfl
      simp only [e4, e5]
      constructor
      · refine Ev.neg (by omega) (Ev.bind L (Ev.neg h0 (Ev.neg h1 (Ev.pos (by omega) (Ev.pos (by omega) ?_)))))
        rw [hrd]
        simp only
        have hf := find_loop s e (if col < 0 then 0 else col) a (by omega) hst (e - a) a 0 (Nat.le_refl _) hae (by omega)
        rw [mx0]
        exact Ev.bind hf (Ev.now _)
      · refine Ev.bind L2 (Ev.neg h0 (Ev.neg h1 (Ev.pos (by omega) (Ev.pos (by omega) ?_))))
        rw [hrd]
        simp only
        exact rnear_loop s (lns s) n e a col (by omega) hst (by omega) hx (e - a) a 0 (Nat.le_refl _) hae (by omega) (.inl rfl)
theorem Offset_long (s : ByteArray) (line col : Int) (hs : s.size > 20000) : Ev (fun k => place_Offset.f k s line col) (0, 3) := by
  unfold place_Offset.f
  exact Ev.pos (by omega) (Ev.now _)
theorem Near_long (s : ByteArray) (line col : Int) (hs : s.size > 20000) : Ev (fun k => place_Near.f k s line col) (0, 3) := by
  unfold place_Near.f
  exact Ev.pos (by omega) (Ev.now _)
/-! ### Span -/
theorem Span_ev (s : ByteArray) (a b c d : Int) (hs : s.size ≤ 20000) : Ev (fun k => place_Span.f k s a b c d) (match offs s a b, offs s c d with | some x, some y => if x > y then (0, 0, 2) else ((x : Int), (y : Int), 0) | _, _ => (0, 0, 2)) := by
  unfold place_Span.f
  refine Ev.bind (Offset_ev s a b hs) ?_
  cases h1 : offs s a b with
  | none => exact Ev.neg (by simp [ans]) (Ev.now _)
  | some x =>
    refine Ev.pos rfl (Ev.bind (Offset_ev s c d hs) ?_)
    cases h2 : offs s c d with
    | none => exact Ev.neg (by simp [ans]) (Ev.now _)
    | some y =>
      refine Ev.pos rfl ?_
      simp only [ans]
      by_cases h : x > y
      · rw [if_pos h]
        exact Ev.pos (by omega) (Ev.now _)
      · rw [if_neg h]
        exact Ev.neg (by omega) (Ev.now _)
theorem Span_long (s : ByteArray) (a b c d : Int) (hs : s.size > 20000) : Ev (fun k => place_Span.f k s a b c d) (0, 0, 3) := by
  unfold place_Span.f
  exact Ev.bind (Offset_long s a b hs) (Ev.neg (by decide) (Ev.now _))
end Go.Proofs.YtbioehoeoalalaaDoor.P
