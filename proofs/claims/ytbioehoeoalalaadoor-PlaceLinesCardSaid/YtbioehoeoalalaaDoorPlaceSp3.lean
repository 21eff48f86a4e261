/- Lines. -/
import Derived.Test.YtbioehoeoalalaaDoorPlaceSp2
import Derived.Lib.SplitLaws
set_option linter.unusedVariables false
set_option linter.unusedSimpArgs false
namespace Go.Proofs.YtbioehoeoalalaaDoor.P
open Go.RowKit Go.Proofs.YtbioehoeoalalaaDoorW.PrintWords Go.Proofs.YtbioehoeoalalaaDoorW.PrintLast Go.Proofs.YtbioehoeoalalaaDoorW.PrintMore
abbrev Sp := S39
/-- The spans of the lines of bytes that lie from i on, the first line's from f on. -/
def sl : List UInt8 → Nat → Nat → List Sp
  | [], f, i => [⟨f, i⟩]
  | c :: r, f, i => if c = 10 then ⟨f, i⟩ :: sl r (i + 1) (i + 1) else sl r f (i + 1)
def lns (s : ByteArray) : List Sp := sl s.data.toList 0 0
theorem sl_length (l : List UInt8) : ∀ f i, (sl l f i).length ≤ l.length + 1 := by
  induction l with
  | nil => intro f i; simp [sl]
  | cons c r ih =>
    intro f i
    simp only [sl]
    split
    · have := ih (i + 1) (i + 1); simp; omega
    · have := ih f (i + 1); simp; omega
def PK (l : List UInt8) : List (List UInt8) := Lib.splitK [10] 0 (Lib.count l [10]) l
def spn : Int → List (List UInt8) → List Sp
  | _, [] => []
  | a, p :: r => ⟨a, a + p.length⟩ :: spn (a + p.length + 1) r
theorem index_nil : Lib.index [] [(10 : UInt8)] = -1 := by simp [Lib.index]
theorem index_cons (c : UInt8) (r : List UInt8) : Lib.index (c :: r) [10] = if c = 10 then 0 else if Lib.index r [10] = -1 then -1 else Lib.index r [10] + 1 := by
  rw [Lib.index]
  by_cases h : c = 10
  · subst h; simp [List.isPrefixOf]
  · have hp : ([10] : List UInt8).isPrefixOf (c :: r) = false := by simp [List.isPrefixOf, Ne.symm h]
    rw [hp, if_neg h]
    simp
theorem PK_nil : PK [] = [[]] := by
  unfold PK
  rw [Lib.count_one]
  rfl
theorem PK_eq (r : List UInt8) : PK (10 :: r) = [] :: PK r := by
  unfold PK
  rw [Lib.count_cons_eq, Nat.add_comm]
  simp only [Lib.splitK]
  rw [index_cons, if_pos rfl]
  simp
theorem PK_ne (c : UInt8) (h : c ≠ 10) (r : List UInt8) : ∃ p ps, PK r = p :: ps ∧ PK (c :: r) = (c :: p) :: ps := by
  unfold PK
  rw [Lib.count_cons_ne c 10 r h]
  cases hk : Lib.count r [10] with
  | zero => exact ⟨r, [], rfl, rfl⟩
  | succ k =>
    have hne : Lib.index r [10] ≠ -1 := by
      intro e
      rw [Lib.count_miss e] at hk
      cases hk
    have hge := Lib.index_ge r [10]
    simp only [Lib.splitK]
    rw [index_cons, if_neg h, if_neg hne]
    have e1 : (Lib.index r [10] == -1) = false := by simpa using hne
    have e2 : (Lib.index r [10] + 1 == -1) = false := by
      have : Lib.index r [10] + 1 ≠ -1 := by omega
      simpa using this
    rw [e1, e2]
    refine ⟨_, _, rfl, ?_⟩
    have e3 : (Lib.index r [10] + 1).toNat + 0 = ((Lib.index r [10]).toNat + 0) + 1 := by omega
    have e4 : (Lib.index r [10] + 1).toNat + [(10 : UInt8)].length = ((Lib.index r [10]).toNat + [(10 : UInt8)].length) + 1 := by simp; omega
    simp only [Bool.false_eq_true, if_false]
    rw [e3, e4, List.take_succ_cons, List.drop_succ_cons]
    simp
theorem sl_PK : ∀ (l : List UInt8) (f i : Nat), ∃ p ps, PK l = p :: ps ∧ sl l f i = ⟨f, (i : Int) + p.length⟩ :: spn ((i : Int) + p.length + 1) ps
  | [], f, i => ⟨[], [], PK_nil, by simp [sl, spn]⟩
  | c :: r, f, i => by
    by_cases h : c = 10
    · subst h
      obtain ⟨p, ps, h1, h2⟩ := sl_PK r (i + 1) (i + 1)
      refine ⟨[], PK r, PK_eq r, ?_⟩
      simp only [sl]
      rw [h2, h1]
      simp [spn]
    · obtain ⟨p, ps, h1, h2⟩ := sl_PK r f (i + 1)
      obtain ⟨p', ps', h3, h4⟩ := PK_ne c h r
      rw [h1] at h3
      injection h3 with h3 h5
      subst h3 h5
      refine ⟨c :: p, ps, h4, ?_⟩
      simp only [sl]
      rw [if_neg h, h2]
      simp only [List.length_cons]
      have e : ((i + 1 : Nat) : Int) + p.length = (i : Int) + (p.length + 1 : Nat) := by omega
      rw [e]
theorem lns_PK (s : ByteArray) : spn 0 (PK s.data.toList) = lns s := by
  obtain ⟨p, ps, h1, h2⟩ := sl_PK s.data.toList 0 0
  unfold lns
  rw [h1, h2]
  simp [spn]
/-! ### place.lines -/
theorem lines_loop (ps : List ByteArray) (hl : ps.length ≤ 100000) : ∀ (r : List ByteArray) (i : Nat) (acc : List Sp) (a : Int), ps.drop i = r → acc.length ≤ i → 0 ≤ a → a + ((r.map (fun p => (p.size : Int) + 1)).sum) ≤ 1000000 →
    Ev (fun k => place_lines.l0 k acc a ps (ps.length : Int) (i : Int)) (acc ++ spn a (r.map (·.data.toList))) := by
  intro r
  induction r with
  | nil =>
    intro i acc a hd ha h0 hb
    have : ps.length ≤ i := by
      rcases Nat.lt_or_ge i ps.length with h | h
      · rw [List.drop_eq_getElem_cons h] at hd; cases hd
      · exact h
    refine Ev.shift ?_
    simp only [place_lines.l0, spn, List.map_nil, List.append_nil]
    exact Ev.neg (by omega) (Ev.now _)
  | cons p r ih =>
    intro i acc a hd ha h0 hb
    have hlt : i < ps.length := by
      rcases Nat.lt_or_ge i ps.length with h | h
      · exact h
      · rw [List.drop_of_length_le h] at hd; cases hd
    have hd' := hd
    rw [List.drop_eq_getElem_cons hlt] at hd'
    injection hd' with e1 e2
    have erd : rdOf ByteArray.empty ps (i : Int) = p := by
      rw [← e1]
      unfold rdOf
      simp [List.getD_eq_getElem?_getD, hlt]
    have hz : 0 ≤ ((r.map (fun p => (p.size : Int) + 1)).sum) := by
      clear ih hd e2 hb
      induction r with
      | nil => simp
      | cons q r ih => simp only [List.map_cons, List.sum_cons]; omega
    simp only [List.map_cons, List.sum_cons] at hb
    refine Ev.shift ?_
    simp only [place_lines.l0]
    rw [erd, w64 (n := a + (p.size : Int)) (by omega) (by omega), w64 (n := (p.size : Int) + 1) (by omega) (by omega), w64 (n := a + ((p.size : Int) + 1)) (by omega) (by omega), w64 (n := (i : Int) + 1) (by omega) (by omega)]
    refine Ev.pos (by omega) (Ev.pos (by omega) (Ev.pos (by omega) (Ev.pos (by omega) ?_)))
    have := ih (i + 1) (acc ++ [⟨a, a + p.size⟩]) (a + (p.size + 1)) e2 (by simp; omega) (by omega) (by omega)
    simp only [List.map_cons, spn, Ut.size_data]
    rw [List.append_assoc] at this
    have e3 : a + (p.size : Int) + 1 = a + ((p.size : Int) + 1) := by omega
    rw [e3]
    exact_mod_cast this
theorem tot_PK (l : List UInt8) : ((PK l).map (fun p => (p.length : Int) + 1)).sum = l.length + 1 := by
  induction l with
  | nil => rw [PK_nil]; rfl
  | cons c r ih =>
    by_cases h : c = 10
    · subst h
      rw [PK_eq]
      simp only [List.map_cons, List.sum_cons, List.length_nil, List.length_cons]
      rw [ih]; push_cast; omega
    · obtain ⟨p, ps, h1, h2⟩ := PK_ne c h r
      rw [h1] at ih
      rw [h2]
      simp only [List.map_cons, List.sum_cons, List.length_cons] at ih ⊢
      push_cast at ih ⊢
      omega
theorem lines_ev (s : ByteArray) (hs : s.size ≤ 30000) : Ev (fun k => place_lines.f k s) (lns s) := by
  unfold place_lines.f
  have hsz : (⟨#[10]⟩ : ByteArray).size = 1 := rfl
  have hlen := Lib.splitB_all ⟨#[10]⟩ (by rw [hsz]; omega) 0 (Lib.countB s ⟨#[10]⟩) s rfl
  have hle := Lib.countB_le ⟨#[10]⟩ (by rw [hsz]; omega) s.size s (Nat.le_refl _)
  have hdat := Lib.splitB_data ⟨#[10]⟩ 0 (Lib.countB s ⟨#[10]⟩) s
  have hPK : (Lib.splitB ⟨#[10]⟩ 0 (Lib.countB s ⟨#[10]⟩) s).map (·.data.toList) = PK s.data.toList := hdat
  refine Ev.bind1 (a := Lib.splitB ⟨#[10]⟩ 0 (Lib.countB s ⟨#[10]⟩) s) ?_ ?_
  · unfold strings_Split.f
    rw [if_pos ⟨by omega, by rw [hsz]; omega, hlen, by omega⟩]
  generalize Lib.splitB ⟨#[10]⟩ 0 (Lib.countB s ⟨#[10]⟩) s = ps at *
  have ht := tot_PK s.data.toList
  rw [← hPK, List.map_map] at ht
  have := lines_loop ps (by omega) ps 0 [] 0 rfl (by simp) (by omega) (by
    have e : (ps.map (fun p => (p.size : Int) + 1)) = ps.map ((fun p => (p.length : Int) + 1) ∘ (fun x => x.data.toList)) := by
      apply List.map_congr_left
      intro p _
      simp only [Function.comp, Ut.size_data]
    rw [e, ht, Ut.size_data]
    omega)
  rw [hPK, lns_PK] at this
  exact this
/-! ### ref01.Lines -/
theorem rlines_loop (s : ByteArray) (hs : s.size ≤ 30000) : ∀ (r : List UInt8) (i f : Nat) (acc : List Sp), s.data.toList.drop i = r → i ≤ s.size → acc.length ≤ i →
    Ev (fun k => marginaliaref01_Lines.l0 k s acc (f : Int) (i : Int)) (acc ++ sl r f i) := by
  intro r
  have hz := Ut.size_data s
  induction r with
  | nil =>
    intro i f acc hd hi ha
    have : s.size ≤ i := by
      rcases Nat.lt_or_ge i s.data.toList.length with h | h
      · rw [List.drop_eq_getElem_cons h] at hd; cases hd
      · omega
    obtain rfl : i = s.size := by omega
    refine Ev.shift ?_
    simp only [marginaliaref01_Lines.l0, sl]
    exact Ev.neg (by omega) (Ev.pos (by omega) (Ev.now _))
  | cons c r ih =>
    intro i f acc hd hi ha
    have hlt : i < s.data.toList.length := by
      rcases Nat.lt_or_ge i s.data.toList.length with h | h
      · exact h
      · rw [List.drop_of_length_le h] at hd; cases hd
    rw [List.drop_eq_getElem_cons hlt] at hd
    injection hd with e1 e2
    have eb : bt s (i : Int) = c.toNat := by
      rw [← bt_at s (i : Int) (by rw [← hz]; exact hlt), ← e1]
      rfl
    refine Ev.shift ?_
    simp only [marginaliaref01_Lines.l0, sl]
    rw [eb, w64 (n := (i : Int) + 1) (by omega) (by omega)]
    refine Ev.pos (by omega) (Ev.pos (by omega) ?_)
    by_cases h : c = 10
    · rw [if_pos h]
      refine Ev.pos (by rw [h]; rfl) (Ev.pos (by omega) ?_)
      have := ih (i + 1) (i + 1) (acc ++ [⟨f, i⟩]) e2 (by omega) (by simp; omega)
      rw [List.append_assoc] at this
      exact_mod_cast this
    · rw [if_neg h]
      refine Ev.neg (fun e => h ?_) ?_
      · apply UInt8.toNat_inj.1
        have : (10 : UInt8).toNat = 10 := rfl
        omega
      · have := ih (i + 1) f acc e2 (by omega) (by omega)
        exact_mod_cast this
theorem rlines_ev (s : ByteArray) (hs : s.size ≤ 30000) : Ev (fun k => marginaliaref01_Lines.f k s) (lns s) := by
  unfold marginaliaref01_Lines.f
  exact rlines_loop s hs _ 0 0 [] rfl (by omega) (by simp)
end Go.Proofs.YtbioehoeoalalaaDoor.P
