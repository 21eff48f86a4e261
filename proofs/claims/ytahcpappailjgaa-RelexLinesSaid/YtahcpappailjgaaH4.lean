/- What the claim's row needs of the seat's texts, part 4: put together by a program of this session (declarations that no text of the claim names are left out). -/
import Derived.IntWalk
import Derived.Test.YtahcpappailjgaaH3
set_option linter.unusedVariables false
set_option linter.unusedSimpArgs false
namespace Go.Proofs.Ytahcpappailjgaa.P
open Go.RowKit Go.Proofs.YtahcpappailjgaaW.PrintWords Go.Proofs.YtahcpappailjgaaW.PrintLast Go.Proofs.YtahcpappailjgaaW.PrintMore
def qn : Option Nat → Nat
 | none => 0
 | some n => n + 1
theorem qe_qn (x : Option Nat) : qe 1 x = (qn x : Int) := by
 cases x with
 | none => rfl
 | some n => show ((1 + n : Nat) : Int) = ((n + 1 : Nat) : Int); omega
theorem qn_le (r : Bs) : qn (qt r) ≤ r.length + 1 := by
 cases e : qt r with
 | none => exact Nat.zero_le _
 | some n => have := qt_pos r.length r (Nat.le_refl _) n e; show n + 1 ≤ _; omega
/-- The token at the beginning that is not bad: its kind and its bytes; no bytes: there is none. -/
def gd : Bs → Int × Nat
 | [] => (0, 0)
 | c :: r =>
  if bk c = true then (1, rn bk (c :: r)) else
  if (c :: r).take 2 = [47, 47] then (2, rn nl (c :: r)) else
  if lt c = true then (if (c :: r).take (rn ld (c :: r)) ∈ ws then 4 else 3, rn ld (c :: r)) else
  if dg c = true then (5, rn dg (c :: r)) else
  if c = 34 then (6, qn (qt r)) else (7, sn (c :: r))
theorem gd_cons (c : UInt8) (r : Bs) : gd (c :: r) =
  if bk c = true then (1, rn bk (c :: r)) else
  if (c :: r).take 2 = [47, 47] then (2, rn nl (c :: r)) else
  if lt c = true then (if (c :: r).take (rn ld (c :: r)) ∈ ws then 4 else 3, rn ld (c :: r)) else
  if dg c = true then (5, rn dg (c :: r)) else
  if c = 34 then (6, qn (qt r)) else (7, sn (c :: r)) := rfl
theorem sn_le (c : UInt8) (r : Bs) : sn (c :: r) ≤ (c :: r).length := by
 unfold sn
 split
 ·rename_i h; exact h.1
 ·split <;> simp
theorem gd_le (l : Bs) : (gd l).2 ≤ l.length := by
 cases l with
 | nil => exact Nat.le_refl _
 | cons c r =>
  rw [gd_cons]
  (repeat' split) <;> first | exact rn_le _ _ | exact qn_le r | exact sn_le c r
theorem isize (s : ByteArray) : s.data.toList.length = s.size := Ut.size_data s
theorem fin_eq (s : ByteArray) (kind : Int) (n : Nat) (h : n ≤ s.size) : token_good.fin s kind (n : Int) = some (kind, s.extract 0 n, decide (0 < n)) := by
 unfold token_good.fin; rw [if_pos (by omega), if_pos (by omega), Int.toNat_natCast]
 congr 3
 exact decide_eq_decide.2 (by omega)
theorem remark_eq (s : ByteArray) : strings_HasPrefix.f s ⟨#[47, 47]⟩ = some (decide (s.data.toList.take 2 = [47, 47])) := by
 have e2 : (s.extract 0 2).data.toList = s.data.toList.take 2 := ext_list s 0 2; have hl := isize s; unfold strings_HasPrefix.f stringslite_HasPrefix.f; have h2 : (((⟨#[47, 47]⟩ : ByteArray).size : Nat) : Int) = 2 := rfl; rw [h2]; by_cases h : (s.size : Int) ≥ 2
 ·rw [if_pos h, if_pos (by decide), if_pos (by omega)]
  show some _ = _
  rw [show ((2 : Int)).toNat = 2 from rfl, Lib.toList_data, e2, Lib.toList_data]
  congr 1
  exact Bool.eq_iff_iff.2 (by rw [beq_iff_eq, decide_eq_true_eq])
 ·rw [if_neg h]
  show some false = _
  congr 1
  symm
  apply decide_eq_false
  intro e; have := congrArg List.length e; rw [List.length_take] at this; simp only [List.length_cons, List.length_nil] at this
  omega
theorem good_ev (s : ByteArray) (c : UInt8) (r : Bs) (hs : s.data.toList = c :: r) (hz : s.size ≤ 1000000000) : Ev (fun k => token_good.f k s) ((gd (c :: r)).1, s.extract 0 (gd (c :: r)).2, decide (0 < (gd (c :: r)).2)) := by
 have hb : 0 < s.size ∧ bt s 0 = (c.toNat : Int) := bt_drop (i := 0) hs; have hl := isize s; have hg := gd_le (c :: r); rw [← hs, hl, hs] at hg; unfold token_good.f; refine Ev.pos (by omega) (Ev.pos hb.1 ?_); rw [hb.2]; refine Ev.bind1 (iblank c) ?_; unfold gd at hg ⊢; by_cases h1 : bk c = true
 ·simp only [if_pos h1] at hg ⊢; rw [irun iblank, hs]; exact Ev.congr (fun _ => fin_eq s 1 _ hg) (Ev.now _)
 ·simp only [if_neg h1] at hg ⊢; refine Ev.bind1 (remark_eq s) ?_; rw [hs]; by_cases h2 : (c :: r).take 2 = [47, 47]
  ·simp only [if_pos h2] at hg ⊢; refine Ev.pos (decide_eq_true h2) (Ev.bind1 (iline s) ?_); rw [hs]; exact Ev.congr (fun _ => fin_eq s 2 _ hg) (Ev.now _)
  ·simp only [if_neg h2] at hg ⊢; refine Ev.neg (by rw [decide_eq_false h2]; decide) (Ev.bind1 (iletter c) ?_); by_cases h3 : lt c = true
   ·simp only [if_pos h3] at hg ⊢; rw [irun iletdig]; refine Ev.pos hg (Ev.bind1 (iword _) ?_); rw [show (s.extract 0 (rn ld (c :: r))).data.toList = (c :: r).take (rn ld (c :: r)) by rw [← hs]; exact ext_list s 0 _]; by_cases h4 : (c :: r).take (rn ld (c :: r)) ∈ ws
    ·simp only [if_pos h4, decide_eq_true h4, if_true]; exact Ev.congr (fun _ => fin_eq s 4 _ hg) (Ev.now _)
    ·simp only [if_neg h4, decide_eq_false h4]; exact Ev.congr (fun _ => fin_eq s 3 _ hg) (Ev.now _)
   ·simp only [if_neg h3] at hg ⊢; refine Ev.bind1 (idigit c) ?_; by_cases h4 : dg c = true
    ·simp only [if_pos h4] at hg ⊢; rw [irun idigit]; exact Ev.congr (fun _ => fin_eq s 5 _ hg) (Ev.now _)
    ·simp only [if_neg h4] at hg ⊢; by_cases h5 : c = 34
     ·simp only [if_pos h5] at hg ⊢; refine Ev.pos ((byte_int c 34 (by decide)).2 h5) ?_
      have hq : Ev (fun k => token_quoted.f k s) (qn (qt r) : Int) := by
       rw [← qe_qn]
       have hd : s.data.toList.drop 1 = r := (by rw [hs]; rfl)
       exact iqt s hz r.length r 1 (Nat.le_refl _) hd
      exact Ev.bind hq (Ev.congr (fun _ => fin_eq s 6 _ hg) (Ev.now _))
     ·simp only [if_neg h5] at hg ⊢; refine Ev.neg (fun x => h5 ((byte_int c 34 (by decide)).1 x)) ?_; have hq := isn s hb.1 hz; rw [hs] at hq; exact Ev.bind hq (Ev.congr (fun _ => fin_eq s 7 _ hg) (Ev.now _))
/-- How many bytes a bad token goes on. -/
def sk : Bs → Nat
 | [] => 0
 | c :: r => if c = 34 ∨ 0 < (gd (c :: r)).2 then 0 else sk r + 1
theorem sk_le : ∀ l : Bs, sk l ≤ l.length
 | [] => Nat.le_refl _
 | c :: r => by
  rw [sk]
  split
  ·omega
  ·have := sk_le r; simp only [List.length_cons]; omega
/-- The token at the beginning. -/
def nx : Bs → Int × Nat
 | [] => (0, 0)
 | c :: r => if 0 < (gd (c :: r)).2 then gd (c :: r) else if c = 34 then (8, rn nl (c :: r)) else (8, sk r + 1)
theorem nx_cons (c : UInt8) (r : Bs) : nx (c :: r) = if 0 < (gd (c :: r)).2 then gd (c :: r) else if c = 34 then (8, rn nl (c :: r)) else (8, sk r + 1) := rfl
theorem nx_pos (c : UInt8) (r : Bs) : 0 < (nx (c :: r)).2 ∧ (nx (c :: r)).2 ≤ (c :: r).length := by
 rw [nx_cons]
 split
 ·rename_i h; exact ⟨h, gd_le _⟩
 ·split
  ·rename_i h
   refine ⟨?_, rn_le _ _⟩; rw [rn, if_pos (by rw [h]; decide)]
   omega
  ·have := sk_le r; exact ⟨Nat.succ_pos _, by simp only [List.length_cons]; omega⟩
theorem ext_suf (s : ByteArray) (i : Nat) : (s.extract i s.size).data.toList = s.data.toList.drop i := by
 rw [ext_list, List.take_of_length_le]; rw [List.length_drop, isize]; exact Nat.le_refl _
theorem next_loop (s : ByteArray) (hz : s.size ≤ 1000000000) : ∀ (r : Bs) (i : Nat), s.data.toList.drop i = r → i ≤ s.size → Ev (fun k => token_next.l0 k s (i : Int)) (8, s.extract 0 (i + sk r)) := by
 intro r
 induction r with
 | nil =>
  intro i h hi; have := nil_drop h; refine Ev.shift ?_; simp only [token_next.l0]; refine Ev.neg (by omega) (Ev.shift ?_); simp only [token_next.j1, sk]; refine Ev.neg (by decide) (Ev.pos (by omega) (Ev.pos (by omega) ?_)); exact Ev.now _
 | cons c r ih =>
  intro i h hi; obtain ⟨hlt, hb⟩ := bt_drop h; refine Ev.shift ?_; simp only [token_next.l0]; refine Ev.pos (by omega) (Ev.pos (by omega) (Ev.shift ?_)); simp only [token_next.j1]; rw [hb, sk]; by_cases h1 : c = 34
  ·subst h1; have e1 : (if (34 : UInt8) = 34 ∨ 0 < (gd (34 :: r)).2 then 0 else sk r + 1) = 0 := if_pos (.inl rfl); rw [e1]; refine Ev.neg (by decide) (Ev.pos (by omega) (Ev.pos (by omega) ?_)); exact Ev.now _
  ·refine Ev.pos (by rw [bne_iff_ne]; exact fun x => h1 ((byte_int c 34 (by decide)).1 x)) (Ev.pos (by omega) (Ev.pos (by omega) ?_))
   have hs : (s.extract i s.size).data.toList = c :: r := (by rw [ext_suf, h])
   have hsz : (s.extract i s.size).size ≤ 1000000000 := (by rw [ByteArray.size_extract]; omega)
   refine Ev.bind (good_ev _ c r hs hsz) ?_; simp only; by_cases h2 : 0 < (gd (c :: r)).2
   ·rw [if_pos (.inr h2)]; refine Ev.pos (decide_eq_true h2) ?_; exact Ev.now _
   ·rw [if_neg (fun x => x.elim h1 h2), w64 (n := (i : Int) + 1) (by omega) (by omega)]; refine Ev.neg (by rw [decide_eq_false h2]; decide) ?_; have := ih (i + 1) (drop_next h) (by omega); rw [show i + 1 + sk r = i + (sk r + 1) by omega] at this
    exact_mod_cast this
theorem next_ev (s : ByteArray) (c : UInt8) (r : Bs) (hs : s.data.toList = c :: r) (hz : s.size ≤ 1000000000) : Ev (fun k => token_next.f k s) ((nx (c :: r)).1, s.extract 0 (nx (c :: r)).2) := by
 have hb : 0 < s.size ∧ bt s 0 = (c.toNat : Int) := bt_drop (i := 0) hs; have hl := isize s; unfold token_next.f; refine Ev.bind (good_ev s c r hs hz) ?_; simp only; rw [nx_cons]; by_cases h : 0 < (gd (c :: r)).2
 ·rw [if_pos h]; exact Ev.pos (decide_eq_true h) (Ev.now _)
 ·rw [if_neg h, hb.2]; refine Ev.neg (by rw [decide_eq_false h]; decide) (Ev.pos (by omega) ?_); by_cases h5 : c = 34
  ·rw [if_pos h5]; refine Ev.pos ((byte_int c 34 (by decide)).2 h5) (Ev.bind1 (iline s) ?_); have := rn_le nl s.data.toList; rw [hl] at this; rw [← hs]; refine Ev.pos (by omega) (Ev.pos (by omega) ?_); exact Ev.now _
  ·rw [if_neg h5]; refine Ev.neg (fun x => h5 ((byte_int c 34 (by decide)).1 x)) ?_; have := next_loop s hz r 1 (by rw [hs]; rfl) hb.1; rw [Nat.add_comm] at this; exact this
/-- The tokens of a string. -/
def lx : Nat → ByteArray → List S59
 | 0, _ => []
 | m + 1, s => if s.size = 0 then [] else ⟨(nx s.data.toList).1, s.extract 0 (nx s.data.toList).2⟩ :: lx m (s.extract (nx s.data.toList).2 s.size)
theorem lex_ev : ∀ (m : Nat) (s : ByteArray) (acc : List S59), s.size ≤ m → s.size ≤ 1000000000 → acc.length + s.size ≤ 1000000000 → Ev (fun k => token_Lex.l0 k s acc) (acc ++ lx m s, 0) := by
 intro m
 induction m with
 | zero =>
  intro s acc h hz ha; have h0 : s.data.toList = [] := List.eq_nil_of_length_eq_zero (by rw [isize]; omega); refine Ev.shift ?_; simp only [token_Lex.l0]; refine Ev.pos (by rw [Lib.toList_data]; exact h0) ?_; rw [lx, List.append_nil]; exact Ev.now _
 | succ m ih =>
  intro s acc h hz ha; refine Ev.shift ?_; simp only [token_Lex.l0]; by_cases h0 : s.size = 0
  ·have h0' : s.data.toList = [] := List.eq_nil_of_length_eq_zero (by rw [isize]; omega); refine Ev.pos (by rw [Lib.toList_data]; exact h0') ?_; rw [lx, if_pos h0, List.append_nil]; exact Ev.now _
  ·obtain ⟨c, r, hs⟩ := drop_cons_of_lt (s := s) (i := 0) (by omega); have hs : s.data.toList = c :: r := hs; refine Ev.neg (by rw [Lib.toList_data, hs]; exact fun e => by cases e) (Ev.bind (next_ev s c r hs hz) ?_); obtain ⟨n1, n2⟩ := nx_pos c r; rw [← hs] at n1 n2 ⊢; rw [isize] at n2; rw [lx, if_neg h0]
   have hx : (s.extract 0 (nx s.data.toList).2).size = (nx s.data.toList).2 := (by rw [ByteArray.size_extract]; omega)
   have hy : (s.extract (nx s.data.toList).2 s.size).size = s.size - (nx s.data.toList).2 := (by rw [ByteArray.size_extract]; omega)
   simp only [hx]; refine Ev.pos (by omega) (Ev.pos (by omega) (Ev.pos (by omega) ?_)); rw [Int.toNat_natCast]; have := ih (s.extract (nx s.data.toList).2 s.size) (acc ++ [⟨(nx s.data.toList).1, s.extract 0 (nx s.data.toList).2⟩]) (by omega) (by omega) (by rw [List.length_append]; simp only [List.length_cons, List.length_nil]; omega); rw [List.append_assoc] at this; exact this
end Go.Proofs.Ytahcpappailjgaa.P

set_option linter.unusedVariables false
set_option linter.unusedSimpArgs false
namespace Go.Proofs.Ytahcpappailjgaa.P
/-! ### all tokens -/
abbrev Tk := Int × Bs
def lxb : Nat → Bs → List Tk
 | 0, _ => []
 | m + 1, [] => []
 | m + 1, c :: r => ((nx (c :: r)).1, (c :: r).take (nx (c :: r)).2) :: lxb m ((c :: r).drop (nx (c :: r)).2)
theorem lxb_nil (m : Nat) : lxb m [] = [] := by cases m <;> rfl
theorem lxb_more : ∀ (m : Nat) (l : Bs), l.length ≤ m → ∀ k, lxb (m + k) l = lxb m l := by
 intro m
 induction m with
 | zero =>
  intro l h k; obtain rfl : l = [] := List.eq_nil_of_length_eq_zero (by omega); rw [lxb_nil, lxb_nil]
 | succ m ih =>
  intro l h k
  cases l with
  | nil => rw [lxb_nil, lxb_nil]
  | cons c r =>
   rw [show m + 1 + k = (m + k) + 1 by omega, lxb, lxb, ih _ (by have := nx_pos c r; rw [List.length_drop]; simp only [List.length_cons] at *; omega)]
/-- The tokens of a string. -/
def lex (l : Bs) : List Tk := lxb l.length l
theorem lxb_lex (m : Nat) (l : Bs) (h : l.length ≤ m) : lxb m l = lex l := by
 rw [show m = l.length + (m - l.length) by omega, lxb_more _ _ (Nat.le_refl _)]; rfl
theorem lex_cons (c : UInt8) (r : Bs) : lex (c :: r) = ((nx (c :: r)).1, (c :: r).take (nx (c :: r)).2) :: lex ((c :: r).drop (nx (c :: r)).2) := by
 show lxb (r.length + 1) (c :: r) = _
 rw [lxb, lxb_lex]; have := nx_pos c r; rw [List.length_drop]; simp only [List.length_cons] at *
 omega
theorem lex_of_ne (l : Bs) (h : l ≠ []) : lex l = ((nx l).1, l.take (nx l).2) :: lex (l.drop (nx l).2) := by
 cases l with
 | nil => exact absurd rfl h
 | cons c r => exact lex_cons c r
end Go.Proofs.Ytahcpappailjgaa.P

set_option linter.unusedVariables false
set_option linter.unusedSimpArgs false
namespace Go.Proofs.Ytahcpappailjgaa.P
open Go.RowKit Go.Proofs.YtahcpappailjgaaW.PrintWords Go.Proofs.YtahcpappailjgaaW.PrintLast Go.Proofs.YtahcpappailjgaaW.PrintMore
theorem rremark (s : ByteArray) (i : Nat) (hi : i < s.size) (hz : s.size ≤ 1000000000) : marginaliaref03_remark.f s (i : Int) = some (decide ((s.data.toList.drop i).take 2 = [47, 47])) := by
 unfold marginaliaref03_remark.f; rw [w64 (n := (i : Int) + 1) (by omega) (by omega)]; obtain ⟨c, r, h⟩ := drop_cons_of_lt hi; obtain ⟨_, hb⟩ := bt_drop h; rw [h, hb]; by_cases h1 : i + 1 < s.size
 ·obtain ⟨d, r', h'⟩ := drop_cons_of_lt h1; obtain ⟨_, hb'⟩ := bt_drop h'; rw [drop_next h] at h'; rw [h', if_pos (by omega), if_pos (by omega), if_pos (by omega)]; have hb' : bt s ((i : Int) + 1) = (d.toNat : Int) := hb'; have b47 : (c.toNat : Int) = 47 ↔ c = 47 := byte_int c 47 (by decide); by_cases hc : c = 47
  ·rw [if_pos (b47.2 hc), if_pos (by omega), hb', hc]
   congr 1
   by_cases hd : d = 47
   ·rw [hd]; rfl
   ·have e1 : ((d.toNat : Int) == 47) = false := beq_eq_false_iff_ne.2 (fun x => hd ((byte_int d 47 (by decide)).1 x)); rw [e1]
    symm
    apply decide_eq_false
    intro e; injection e with _ e; injection e with e _; exact hd e
  ·rw [if_neg (fun x => hc (b47.1 x))]
   congr 1
   symm
   apply decide_eq_false
   intro e; injection e with e _; exact hc e
 ·rw [if_neg (by omega)]
  congr 1
  symm
  apply decide_eq_false
  intro e; have := congrArg List.length e; have h3 := congrArg List.length h; rw [List.length_drop, isize] at h3; simp only [List.length_take, List.length_cons, List.length_nil] at this h3
  omega
theorem rline (s : ByteArray) (hz : s.size ≤ 1000000000) : ∀ (r : Bs) (i : Nat), s.data.toList.drop i = r → Ev (fun k => marginaliaref03_line.l0 k s (i : Int)) ((i + rn nl r : Nat) : Int) := by
 intro r
 induction r with
 | nil =>
  intro i h; have := nil_drop h; refine Ev.shift ?_; simp only [marginaliaref03_line.l0]; exact Ev.neg (by omega) (Ev.now _)
 | cons c r ih =>
  intro i h; obtain ⟨hlt, hb⟩ := bt_drop h; refine Ev.shift ?_; simp only [marginaliaref03_line.l0]; rw [hb, rn]; refine Ev.pos (by omega) (Ev.pos (by omega) ?_); by_cases hc : c = 10
  ·rw [if_neg (by rw [hc]; decide)]; exact Ev.pos ((byte_int c 10 (by decide)).2 hc) (Ev.now _)
  ·rw [if_pos (by unfold nl; rw [bne_iff_ne]; exact hc), w64 (n := (i : Int) + 1) (by omega) (by omega)]; refine Ev.neg (fun x => hc ((byte_int c 10 (by decide)).1 x)) ?_; have := ih (i + 1) (drop_next h); rw [show i + 1 + rn nl r = i + (rn nl r + 1) by omega] at this
   exact_mod_cast this
theorem cut_some (s : ByteArray) (kind : Int) (a b : Nat) (hab : a ≤ b) (hb : b ≤ s.size) : (if 0 ≤ (a : Int) then (if (a : Int) ≤ (b : Int) then (if (b : Int) ≤ (s.size : Int) then some (kind, s.extract ((a : Int)).toNat ((b : Int)).toNat) else none) else none) else none) = some (kind, s.extract a b) := by
 rw [if_pos (by omega), if_pos (by omega), if_pos (by omega)]; rfl
theorem rblanks (s : ByteArray) (hz : s.size ≤ 1000000000) (a : Nat) : ∀ (r : Bs) (i : Nat), s.data.toList.drop i = r → a ≤ i → i ≤ s.size → Ev (fun k => marginaliaref03_Next.l0 k s (a : Int) (i : Int)) (1, s.extract a (i + rn bk r)) := by
 intro r
 induction r with
 | nil =>
  intro i h ha hi; have := nil_drop h; refine Ev.shift ?_; simp only [marginaliaref03_Next.l0]; refine Ev.neg (by omega) ?_; exact Ev.congr (fun _ => cut_some s 1 a i ha hi) (Ev.now _)
 | cons c r ih =>
  intro i h ha hi; obtain ⟨hlt, hb⟩ := bt_drop h; refine Ev.shift ?_; simp only [marginaliaref03_Next.l0]; rw [hb, rn]; refine Ev.pos (by omega) (Ev.pos (by omega) (Ev.bind1 (rblank c) ?_)); by_cases hc : bk c = true
  ·simp only [if_pos hc]; rw [w64 (n := (i : Int) + 1) (by omega) (by omega)]; have := ih (i + 1) (drop_next h) (by omega) (by omega); rw [show i + 1 + rn bk r = i + (rn bk r + 1) by omega] at this
   exact_mod_cast this
  ·simp only [if_neg hc]; exact Ev.congr (fun _ => cut_some s 1 a i ha hi) (Ev.now _)
theorem rdigits (s : ByteArray) (hz : s.size ≤ 1000000000) (a : Nat) : ∀ (r : Bs) (i : Nat), s.data.toList.drop i = r → a ≤ i → i ≤ s.size → Ev (fun k => marginaliaref03_Next.l2 k s (a : Int) (i : Int)) (5, s.extract a (i + rn dg r)) := by
 intro r
 induction r with
 | nil =>
  intro i h ha hi; have := nil_drop h; refine Ev.shift ?_; simp only [marginaliaref03_Next.l2]; refine Ev.neg (by omega) ?_; exact Ev.congr (fun _ => cut_some s 5 a i ha hi) (Ev.now _)
 | cons c r ih =>
  intro i h ha hi; obtain ⟨hlt, hb⟩ := bt_drop h; refine Ev.shift ?_; simp only [marginaliaref03_Next.l2]; rw [hb, rn]; refine Ev.pos (by omega) (Ev.pos (by omega) (Ev.bind1 (rdigit c) ?_)); by_cases hc : dg c = true
  ·simp only [if_pos hc]; rw [w64 (n := (i : Int) + 1) (by omega) (by omega)]; have := ih (i + 1) (drop_next h) (by omega) (by omega); rw [show i + 1 + rn dg r = i + (rn dg r + 1) by omega] at this
   exact_mod_cast this
  ·simp only [if_neg hc]; exact Ev.congr (fun _ => cut_some s 5 a i ha hi) (Ev.now _)
theorem rwordend (s : ByteArray) (hz : s.size ≤ 1000000000) (a b : Nat) (hab : a ≤ b) (hb : b ≤ s.size) : Ev (fun k => marginaliaref03_Next.j2 k s (a : Int) (b : Int)) (if (s.extract a b).data.toList ∈ ws then 4 else 3, s.extract a b) := by
 obtain ⟨l, hl, hw⟩ := has_words (s.extract a b); refine Ev.shift ?_; simp only [marginaliaref03_Next.j2]; refine Ev.bind1 hl (Ev.pos (by omega) (Ev.pos (by omega) (Ev.pos (by omega) ?_))); simp only [Int.toNat_natCast]; refine Ev.bind hw ?_; by_cases h : (s.extract a b).data.toList ∈ ws
 ·simp only [if_pos h, decide_eq_true h, if_true]; exact Ev.now _
 ·simp only [if_neg h, decide_eq_false h]; exact Ev.now _
theorem rletters (s : ByteArray) (hz : s.size ≤ 1000000000) (a : Nat) : ∀ (r : Bs) (i : Nat), s.data.toList.drop i = r → a ≤ i → i ≤ s.size → Ev (fun k => marginaliaref03_Next.l1 k s (a : Int) (i : Int)) (if (s.extract a (i + rn ld r)).data.toList ∈ ws then 4 else 3, s.extract a (i + rn ld r)) := by
 intro r
 induction r with
 | nil =>
  intro i h ha hi; have := nil_drop h; refine Ev.shift ?_; simp only [marginaliaref03_Next.l1]; refine Ev.neg (by omega) ?_; exact rwordend s hz a i ha hi
 | cons c r ih =>
  intro i h ha hi; obtain ⟨hlt, hb⟩ := bt_drop h; refine Ev.shift ?_; simp only [marginaliaref03_Next.l1]; rw [hb, rn]; refine Ev.pos (by omega) (Ev.pos (by omega) (Ev.bind1 (rletter c) ?_)); have hn := ih (i + 1) (drop_next h) (by omega) (by omega); rw [show i + 1 + rn ld r = i + (rn ld r + 1) by omega] at hn; rw [w64 (n := (i : Int) + 1) (by omega) (by omega)]; by_cases hc : lt c = true
  ·have hl : ld c = true := (by unfold ld; rw [hc]; rfl)
   simp only [if_pos hc, if_pos hl]
   exact_mod_cast hn
  ·simp only [if_neg hc]; refine Ev.bind1 (rdigit c) ?_; by_cases hd : dg c = true
   ·have hl : ld c = true := (by unfold ld; rw [hd]; simp)
    simp only [if_pos hd, if_pos hl]
    exact_mod_cast hn
   ·have hl : ¬ ld c = true := (by unfold ld; rw [Bool.not_eq_true] at hc hd; rw [hc, hd]; decide)
    simp only [if_neg hd, if_neg hl]; exact rwordend s hz a i ha hi
theorem rn_cons_pos {p : UInt8 → Bool} {c : UInt8} {r : Bs} (h : p c = true) : rn p (c :: r) = rn p r + 1 := by rw [rn, if_pos h]
theorem rbegins (s : ByteArray) (hz : s.size ≤ 1000000000) (i : Nat) (c : UInt8) (r : Bs) (h : s.data.toList.drop i = c :: r) : Ev (fun k => marginaliaref03_begins.f k s (i : Int)) (decide (c = 34 ∨ 0 < (gd (c :: r)).2)) := by
 obtain ⟨hlt, hb⟩ := bt_drop h; unfold marginaliaref03_begins.f; refine Ev.pos (by omega) (Ev.pos (by omega) ?_); rw [hb, gd_cons]; refine Ev.bind1 (rblank c) ?_; by_cases h1 : bk c = true
 ·simp only [if_pos h1]; rw [decide_eq_true (.inr (by rw [rn_cons_pos h1]; exact Nat.succ_pos _))]; exact Ev.now _
 ·simp only [if_neg h1]; refine Ev.bind1 (rletter c) ?_; by_cases h3 : lt c = true
  ·simp only [if_pos h3]
   have h4 : ¬ (c :: r).take 2 = [47, 47] := by
    intro e; rw [List.take_succ_cons] at e; injection e with e _; rw [e] at h3
    revert h3
    decide
   rw [if_neg h4, decide_eq_true (.inr (by rw [rn_cons_pos (by unfold ld; rw [h3]; rfl)]; exact Nat.succ_pos _))]; exact Ev.now _
  ·simp only [if_neg h3]; refine Ev.bind1 (rdigit c) ?_; by_cases h4 : dg c = true
   ·simp only [if_pos h4]
    have h5 : ¬ (c :: r).take 2 = [47, 47] := by
     intro e; rw [List.take_succ_cons] at e; injection e with e _; rw [e] at h4
     revert h4
     decide
    rw [if_neg h5, decide_eq_true (.inr (by rw [rn_cons_pos h4]; exact Nat.succ_pos _))]; exact Ev.now _
   ·simp only [if_neg h4]; by_cases h5 : c = 34
    ·rw [decide_eq_true (.inl h5)]; exact Ev.pos ((byte_int c 34 (by decide)).2 h5) (Ev.now _)
    ·refine Ev.neg (fun x => h5 ((byte_int c 34 (by decide)).1 x)) (Ev.bind1 (rremark s i hlt hz) ?_); rw [h]; by_cases h6 : (c :: r).take 2 = [47, 47]
     ·rw [if_pos h6, decide_eq_true h6]
      have h7 : c = 47 := by
       rw [List.take_succ_cons] at h6; injection h6
      rw [decide_eq_true (.inr (by rw [rn_cons_pos (by rw [h7]; decide)]; exact Nat.succ_pos _))]; exact Ev.pos rfl (Ev.now _)
     ·rw [if_neg h6, decide_eq_false h6]; refine Ev.neg (by decide) ?_; have hs := rsn s i hlt hz; rw [h] at hs; refine Ev.bind hs ?_; simp only [if_neg h5]; have e1 : decide (c = 34 ∨ 0 < sn (c :: r)) = decide ((sn (c :: r) : Int) > 0) := decide_eq_decide.2 ⟨fun x => x.elim (fun e => absurd e h5) (fun x => by omega), fun x => .inr (by omega)⟩; rw [e1]; exact Ev.now _
theorem rbad (s : ByteArray) (hz : s.size ≤ 1000000000) (a : Nat) : ∀ (r : Bs) (i : Nat), s.data.toList.drop i = r → a ≤ i → i ≤ s.size → Ev (fun k => marginaliaref03_Next.l3 k s (a : Int) (i : Int)) (8, s.extract a (i + sk r)) := by
 intro r
 induction r with
 | nil =>
  intro i h ha hi; have := nil_drop h; refine Ev.shift ?_; simp only [marginaliaref03_Next.l3]; refine Ev.neg (by omega) ?_; exact Ev.congr (fun _ => cut_some s 8 a i ha hi) (Ev.now _)
 | cons c r ih =>
  intro i h ha hi; obtain ⟨hlt, hb⟩ := bt_drop h; refine Ev.shift ?_; simp only [marginaliaref03_Next.l3]; rw [sk]; refine Ev.pos (by omega) (Ev.bind (rbegins s hz i c r h) ?_); by_cases hc : c = 34 ∨ 0 < (gd (c :: r)).2
  ·rw [if_pos hc]; refine Ev.pos (decide_eq_true hc) ?_; exact Ev.congr (fun _ => cut_some s 8 a i ha hi) (Ev.now _)
  ·rw [if_neg hc, w64 (n := (i : Int) + 1) (by omega) (by omega)]; refine Ev.neg (by rw [decide_eq_false hc]; decide) ?_; have := ih (i + 1) (drop_next h) (by omega) (by omega); rw [show i + 1 + sk r = i + (sk r + 1) by omega] at this
   exact_mod_cast this
theorem Next_ev (s : ByteArray) (hz : s.size ≤ 1000000000) (i : Nat) (c : UInt8) (r : Bs) (h : s.data.toList.drop i = c :: r) : Ev (fun k => marginaliaref03_Next.f k s (i : Int)) ((nx (c :: r)).1, s.extract i (i + (nx (c :: r)).2)) := by
 obtain ⟨hlt, hb⟩ := bt_drop h
 have hlen : (c :: r).length = s.size - i := (by rw [← h, List.length_drop, isize])
 unfold marginaliaref03_Next.f; refine Ev.pos (by omega) (Ev.pos (by omega) ?_); rw [hb, w64 (n := (i : Int) + 1) (by omega) (by omega), nx_cons]; refine Ev.bind1 (rblank c) ?_; have hg := gd_cons c r; have hr := drop_next h; by_cases h1 : bk c = true
 ·simp only [if_pos h1] at hg ⊢; rw [hg]
  have h0 : 0 < ((1 : Int), rn bk (c :: r)).2 := (by rw [rn_cons_pos h1]; exact Nat.succ_pos _)
  rw [if_pos h0, rn_cons_pos h1]; have := rblanks s hz i r (i + 1) hr (by omega) (by omega); rw [show i + 1 + rn bk r = i + (rn bk r + 1) by omega] at this
  exact_mod_cast this
 ·simp only [if_neg h1] at hg ⊢; refine Ev.bind1 (rremark s i hlt hz) ?_; rw [h]; by_cases h2 : (c :: r).take 2 = [47, 47]
  ·rw [if_pos h2] at hg
   have h7 : c = 47 := by
    rw [List.take_succ_cons] at h2; injection h2
   have h0 : 0 < ((2 : Int), rn nl (c :: r)).2 := (by rw [rn_cons_pos (by rw [h7]; decide)]; exact Nat.succ_pos _)
   rw [hg, if_pos h0]; refine Ev.pos (decide_eq_true h2) ?_; have := rline s hz (c :: r) i h; refine Ev.bind this ?_; have hn := rn_le nl (c :: r); refine Ev.pos (by omega) (Ev.pos (by omega) ?_); exact Ev.now _
  ·rw [if_neg h2] at hg; refine Ev.neg (by rw [decide_eq_false h2]; decide) (Ev.bind1 (rletter c) ?_); by_cases h3 : lt c = true
   ·simp only [if_pos h3] at hg ⊢
    have hl : ld c = true := (by unfold ld; rw [h3]; rfl)
    have hn := rn_le ld (c :: r)
    have e1 : (s.extract i (i + rn ld (c :: r))).data.toList = (c :: r).take (rn ld (c :: r)) := (by rw [ext_list, h]; congr 1; omega)
    have h0 : ∀ x : Int, 0 < (x, rn ld (c :: r)).2 := fun _ => by rw [rn_cons_pos hl]; exact Nat.succ_pos _
    rw [hg, if_pos (h0 _)]; have := rletters s hz i r (i + 1) hr (by omega) (by omega); rw [show i + 1 + rn ld r = i + rn ld (c :: r) by rw [rn_cons_pos hl]; omega, e1] at this
    exact_mod_cast this
   ·simp only [if_neg h3] at hg ⊢; refine Ev.bind1 (rdigit c) ?_; by_cases h4 : dg c = true
    ·simp only [if_pos h4] at hg ⊢
     have h0 : 0 < ((5 : Int), rn dg (c :: r)).2 := (by rw [rn_cons_pos h4]; exact Nat.succ_pos _)
     rw [hg, if_pos h0, rn_cons_pos h4]; have := rdigits s hz i r (i + 1) hr (by omega) (by omega); rw [show i + 1 + rn dg r = i + (rn dg r + 1) by omega] at this
     exact_mod_cast this
    ·simp only [if_neg h4] at hg ⊢; by_cases h5 : c = 34
     ·rw [if_pos h5] at hg; refine Ev.pos ((byte_int c 34 (by decide)).2 h5) ?_; rw [hg]; have hq := rqt s hz r.length r (i + 1) (Nat.le_refl _) hr
      have hq : Ev (fun k => marginaliaref03_quoted.f k s (i : Int)) (qe (i + 1) (qt r)) := by
       unfold marginaliaref03_quoted.f; rw [w64 (n := (i : Int) + 1) (by omega) (by omega)]
       exact_mod_cast hq
      refine Ev.bind hq ?_
      cases e : qt r with
      | none =>
       have e0 : qe (i + 1) (none : Option Nat) = 0 := rfl
       have e1 : (if 0 < ((6 : Int), qn none).2 then ((6 : Int), qn none) else if c = 34 then (8, rn nl (c :: r)) else (8, sk r + 1)) = (8, rn nl (c :: r)) := (by rw [if_neg (show ¬ 0 < ((6 : Int), qn none).2 from Nat.lt_irrefl 0), if_pos h5])
       rw [e0, e1]; refine Ev.neg (by decide) ?_; refine Ev.bind (rline s hz (c :: r) i h) ?_; have hn := rn_le nl (c :: r); refine Ev.pos (by omega) (Ev.pos (by omega) ?_); exact Ev.now _
      | some n =>
       have hp := qt_pos r.length r (Nat.le_refl _) n e; simp only [List.length_cons] at hlen; have e0 : qe (i + 1) (some n) = ((i + 1 + n : Nat) : Int) := rfl; have e1 : (if 0 < ((6 : Int), qn (some n)).2 then ((6 : Int), qn (some n)) else if c = 34 then (8, rn nl (c :: r)) else (8, sk r + 1)) = (6, n + 1) := if_pos (Nat.succ_pos n); rw [e0, e1]; refine Ev.pos (by omega) (Ev.pos (by omega) (Ev.pos (by omega) ?_)); rw [show i + 1 + n = i + (n + 1) by omega]; exact Ev.now _
     ·rw [if_neg h5] at hg; refine Ev.neg (fun x => h5 ((byte_int c 34 (by decide)).1 x)) ?_; rw [hg]; have hs := rsn s i hlt hz; rw [h] at hs; have hn := sn_le c r; refine Ev.bind hs ?_; rw [w64 (n := (i : Int) + (sn (c :: r) : Int)) (by omega) (by omega)]; by_cases h6 : 0 < sn (c :: r)
      ·rw [if_pos h6]; refine Ev.pos (by omega) (Ev.pos (by omega) (Ev.pos (by omega) ?_)); rw [Int.toNat_natCast, show ((i : Int) + (sn (c :: r) : Int)).toNat = i + sn (c :: r) by omega]; exact Ev.now _
      ·rw [if_neg h6, if_neg h5]; refine Ev.neg (by omega) ?_; have := rbad s hz i r (i + 1) hr (by omega) (by omega); rw [show i + 1 + sk r = i + (sk r + 1) by omega] at this
       exact_mod_cast this
end Go.Proofs.Ytahcpappailjgaa.P

set_option linter.unusedVariables false
set_option linter.unusedSimpArgs false
namespace Go.Proofs.Ytahcpappailjgaa.P
open Go.RowKit Go.Proofs.YtahcpappailjgaaW.PrintWords Go.Proofs.YtahcpappailjgaaW.PrintLast Go.Proofs.YtahcpappailjgaaW.PrintMore
abbrev Tn := S59
instance : DecidableEq Tn := fun a b =>
 if h : a.f0 = b.f0 ∧ a.f1 = b.f1 then isTrue (by cases a; cases b; simp only at h; rw [h.1, h.2]) else isFalse (fun e => h (by rw [e]; exact ⟨rfl, rfl⟩))
def mkS (t : Tk) : Tn := ⟨t.1, ba t.2⟩
theorem ba_eq {s : ByteArray} {l : Bs} (h : s.data.toList = l) : s = ba l := by rw [← h, list_ba]
theorem ext_ba (s : ByteArray) (a b : Nat) : s.extract a b = ba ((s.data.toList.drop a).take (b - a)) := ba_eq (ext_list s a b)
def lexS (s : Bs) : List Tn := (lex s).map mkS
theorem lx_lex : ∀ (m : Nat) (s : ByteArray), s.size ≤ m → lx m s = lexS s.data.toList := by
 intro m
 induction m with
 | zero =>
  intro s h; have h0 : s.data.toList = [] := List.eq_nil_of_length_eq_zero (by rw [isize]; omega); rw [lx, h0]; rfl
 | succ m ih =>
  intro s h; rw [lx]; by_cases h0 : s.size = 0
  ·have h0' : s.data.toList = [] := List.eq_nil_of_length_eq_zero (by rw [isize]; omega); rw [if_pos h0, h0']; rfl
  ·obtain ⟨c, r, hs⟩ := drop_cons_of_lt (s := s) (i := 0) (by omega); have hs : s.data.toList = c :: r := hs; obtain ⟨n1, n2⟩ := nx_pos c r; rw [← hs] at n1 n2; rw [if_neg h0, ih _ (by rw [ByteArray.size_extract]; omega), ext_suf, ext_ba]; rw [lexS, lexS, lex_of_ne s.data.toList (by rw [hs]; simp), List.map_cons]
   congr 1
theorem Lex_ev (s : ByteArray) (hz : s.size ≤ 1000000000) : Ev (fun k => token_Lex.f k s) (if (s.size : Int) > 20000 then ([], 3) else (lexS s.data.toList, 0)) := by
 unfold token_Lex.f; by_cases h : (s.size : Int) > 20000
 ·rw [if_pos h]; exact Ev.pos h (Ev.now _)
 ·rw [if_neg h]; have := lex_ev s.size s [] (Nat.le_refl _) hz (by simpa using hz); rw [lx_lex _ _ (Nat.le_refl _), List.nil_append] at this; exact Ev.neg h this
theorem rlex_loop (s : ByteArray) (hz : s.size ≤ 1000000000) : ∀ (m : Nat) (r : Bs) (i : Nat) (acc : List Tn), r.length ≤ m → s.data.toList.drop i = r → i ≤ s.size → acc.length + r.length ≤ 1000000000 → Ev (fun k => marginaliaref03_Lex.l0 k s acc (i : Int)) (acc ++ lexS r) := by
 intro m
 induction m with
 | zero =>
  intro r i acc hr h hi ha; obtain rfl : r = [] := List.eq_nil_of_length_eq_zero (by omega); have := nil_drop h; refine Ev.shift ?_; simp only [marginaliaref03_Lex.l0]; refine Ev.neg (by omega) ?_; rw [show lexS [] = [] from rfl, List.append_nil]; exact Ev.now _
 | succ m ih =>
  intro r i acc hr h hi ha
  cases r with
  | nil => exact ih [] i acc (Nat.zero_le _) h hi (by simp at ha ⊢; omega)
  | cons c r =>
   obtain ⟨hlt, _⟩ := bt_drop h; obtain ⟨n1, n2⟩ := nx_pos c r
   have hlen : (c :: r).length = s.size - i := (by rw [← h, List.length_drop, isize])
   have hx : (s.extract i (i + (nx (c :: r)).2)).size = (nx (c :: r)).2 := (by rw [ByteArray.size_extract]; omega)
   refine Ev.shift ?_; simp only [marginaliaref03_Lex.l0]; refine Ev.pos (by omega) (Ev.bind (Next_ev s hz i c r h) (Ev.pos (by simp only [List.length_cons] at ha; omega) ?_)); simp only [hx]; rw [w64 (by omega) (by omega)]; have := ih ((c :: r).drop (nx (c :: r)).2) (i + (nx (c :: r)).2) (acc ++ [⟨(nx (c :: r)).1, s.extract i (i + (nx (c :: r)).2)⟩]) (by rw [List.length_drop]; simp only [List.length_cons] at *; omega) (by rw [← List.drop_drop, h]) (by omega) (by rw [List.length_drop, List.length_append]; simp only [List.length_cons, List.length_nil] at *; omega)
   have e : acc ++ [⟨(nx (c :: r)).1, s.extract i (i + (nx (c :: r)).2)⟩] ++ lexS ((c :: r).drop (nx (c :: r)).2) = acc ++ lexS (c :: r) := by
    rw [lexS, lexS, lex_cons, List.map_cons, List.append_assoc, ext_ba, h]; rw [show i + (nx (c :: r)).2 - i = (nx (c :: r)).2 by omega]; rfl
   rw [e] at this
   exact_mod_cast this
theorem rLex_ev (s : ByteArray) (hz : s.size ≤ 1000000000) : Ev (fun k => marginaliaref03_Lex.f k s) (lexS s.data.toList) := by
 have := rlex_loop s hz s.size s.data.toList 0 [] (by rw [isize]; exact Nat.le_refl _) rfl (Nat.zero_le _) (by rw [isize]; simpa using hz); rw [List.nil_append] at this; exact this
/-! ### Same -/
theorem rd_tn {l : List Tn} {i : Nat} {e : Tn} {r : List Tn} (h : l.drop i = e :: r) : rd_T59 l (i : Int) = e := by
 have h1 : l[i]? = some e := by
  have := congrArg (fun x : List Tn => x[0]?) h
  simpa [List.getElem?_drop] using this
 simp [rd_T59, List.getD_eq_getElem?_getD, h1]
theorem str_eq {s t : ByteArray} : (s.toList == t.toList) = decide (s = t) := by
 have h : (s.toList = t.toList) ↔ s = t := by
  constructor
  ·intro h; rw [Lib.toList_data, Lib.toList_data] at h; rw [← list_ba s, h, list_ba]
  ·intro h; rw [h]
 by_cases e : s = t
 ·rw [e]; simp
 ·rw [decide_eq_false e, beq_eq_false_iff_ne]
  exact fun x => e (h.1 x)
theorem tn_ne (e e' : Tn) : ((!(e.f0 == e'.f0) || (!(e.f1.toList == e'.f1.toList))) = true) ↔ ¬ e = e' := by
 rw [str_eq]
 cases e with
 | mk a b =>
  cases e' with
  | mk c d =>
   simp only [S59.mk.injEq, not_and, Bool.or_eq_true, Bool.not_eq_true', beq_eq_false_iff_ne, decide_eq_false_iff_not]; by_cases h : a = c
   ·simp [h]
   ·simp [h]
theorem rsame_loop (a b : List Tn) (hab : a.length = b.length) (hl : a.length ≤ 1000000000) : ∀ (r q : List Tn) (i : Nat), a.drop i = r → b.drop i = q → Ev (fun k => marginaliaref03_Same.l0 k a b (i : Int)) (decide (r = q)) := by
 intro r
 induction r with
 | nil =>
  intro q i h h'; have := le_of_nil h
  have hq : q = [] := (by rw [← h']; exact List.drop_of_length_le (by omega))
  subst hq; refine Ev.shift ?_; simp only [marginaliaref03_Same.l0]; exact Ev.neg (by omega) (Ev.now _)
 | cons e r ih =>
  intro q i h h'; have hlt := lt_of_drop h
  cases q with
  | nil => have := le_of_nil h'; omega
  | cons e' q =>
   refine Ev.shift ?_; simp only [marginaliaref03_Same.l0]; rw [rd_tn h, rd_tn h']; refine Ev.pos (by omega) (Ev.pos (by omega) (Ev.pos (by omega) ?_)); by_cases he : e = e'
   ·subst he; refine Ev.neg (fun x => (tn_ne e e).1 x rfl) ?_; rw [w64 (n := (i : Int) + 1) (by omega) (by omega), show decide (e :: r = e :: q) = decide (r = q) by simp]
    exact_mod_cast ih q (i + 1) (drop_next h) (drop_next h')
   ·refine Ev.pos ((tn_ne e e').2 he) ?_; rw [show decide (e :: r = e' :: q) = false from decide_eq_false (fun x => he (by injection x))]; exact Ev.now _
theorem rSame_ev (a b : List Tn) (hl : a.length ≤ 1000000000) : Ev (fun k => marginaliaref03_Same.f k a b) (decide (a = b)) := by
 unfold marginaliaref03_Same.f; by_cases h : a.length = b.length
 ·exact Ev.pos (by omega) (rsame_loop a b h hl a b 0 rfl rfl)
 ·rw [decide_eq_false (fun e => h (by rw [e]))]; exact Ev.neg (by omega) (Ev.now _)
theorem equal_loop (a b : List Tn) (hab : a.length = b.length) (hl : a.length ≤ 1000000000) : ∀ (r q : List Tn) (i : Nat), a.drop i = r → b.drop i = q → Ev (fun k => api_Token_49.l0 k a b (a.length : Int) (i : Int)) (decide (r = q)) := by
 intro r
 induction r with
 | nil =>
  intro q i h h'; have := le_of_nil h
  have hq : q = [] := (by rw [← h']; exact List.drop_of_length_le (by omega))
  subst hq; refine Ev.shift ?_; simp only [api_Token_49.l0]; exact Ev.neg (by omega) (Ev.now _)
 | cons e r ih =>
  intro q i h h'; have hlt := lt_of_drop h
  cases q with
  | nil => have := le_of_nil h'; omega
  | cons e' q =>
   refine Ev.shift ?_; simp only [api_Token_49.l0]; rw [rd_tn h, rd_tn h']; refine Ev.pos (by omega) (Ev.pos (by omega) (Ev.pos (by omega) (Ev.pos (by omega) ?_))); by_cases he : e = e'
   ·subst he; refine Ev.neg (fun x => (tn_ne e e).1 x rfl) ?_; rw [w64 (n := (i : Int) + 1) (by omega) (by omega), show decide (e :: r = e :: q) = decide (r = q) by simp]
    exact_mod_cast ih q (i + 1) (drop_next h) (drop_next h')
   ·refine Ev.pos ((tn_ne e e').2 he) ?_; rw [show decide (e :: r = e' :: q) = false from decide_eq_false (fun x => he (by injection x))]; exact Ev.now _
theorem equal_ev (a b : List Tn) (hl : a.length ≤ 1000000000) : Ev (fun k => api_Token_49.f k a b) (decide (a = b)) := by
 unfold api_Token_49.f; by_cases h : a.length = b.length
 ·exact Ev.pos (by omega) (equal_loop a b h hl a b 0 rfl rfl)
 ·rw [decide_eq_false (fun e => h (by rw [e]))]; exact Ev.neg (by omega) (Ev.now _)
/-! ### Cut -/
/-- The bytes of tokens. -/
def catS (l : List Tn) : Bs := (l.map fun t => t.f1.data.toList).flatten
def tot (l : List Tn) : Nat := (l.map fun t => t.f1.size).sum
theorem catS_cons (t : Tn) (l : List Tn) : catS (t :: l) = t.f1.data.toList ++ catS l := rfl
theorem tot_cons (t : Tn) (l : List Tn) : tot (t :: l) = t.f1.size + tot l := by simp [tot]
theorem tot_append (a b : List Tn) : tot (a ++ b) = tot a + tot b := by simp [tot]
theorem tot_one (t : Tn) : tot [t] = t.f1.size := by simp [tot]
theorem catS_length (l : List Tn) : (catS l).length = tot l := by
 induction l with
 | nil => rfl
 | cons t l ih => rw [catS_cons, List.length_append, isize, ih, tot_cons]
def Fine3 (l : List Tn) : Prop := l.length ≤ 20001 ∧ tot l ≤ 20001
theorem cut3_loop (l : List Tn) (hl : l.length ≤ 9223372036854775807) : ∀ (d i : Nat) (acc : List Tn), 20001 - i = d → i ≤ 20001 → acc.length = i → tot acc ≤ 20001 →
  ∃ r, Fine3 r ∧ Ev (fun k => marginaliaref03_Cut.l0 k l acc (20001 - (tot acc : Int)) (i : Int)) r := by
 intro d
 induction d with
 | zero =>
  intro i acc hd hi ha ht; refine ⟨acc, ⟨by omega, ht⟩, Ev.shift ?_⟩; simp only [marginaliaref03_Cut.l0]; by_cases h : (i : Int) < (l.length : Int)
  ·exact Ev.pos h (Ev.neg (by omega) (Ev.now _))
  ·exact Ev.neg h (Ev.now _)
 | succ d ih =>
  intro i acc hd hi ha ht; by_cases h : (i : Int) < (l.length : Int)
  ·obtain ⟨e, r, hr⟩ : ∃ e r, l.drop i = e :: r := by
    cases q : l.drop i with
    | nil => have := le_of_nil q; omega
    | cons e r => exact ⟨e, r, rfl⟩
   obtain ⟨j, hj, hj1, hj2⟩ : ∃ j : Nat, mn (e.f1.size : Int) (20001 - (tot acc : Int)) = (j : Int) ∧ j ≤ e.f1.size ∧ j + tot acc ≤ 20001 := by
    refine ⟨min e.f1.size (20001 - tot acc), ?_, by omega, by omega⟩; unfold mn
    (repeat' split) <;> omega
   have hz : (e.f1.extract 0 j).size = j := (by rw [ByteArray.size_extract]; omega)
   obtain ⟨r', hf, hE⟩ := ih (i + 1) (acc ++ [⟨e.f0, e.f1.extract 0 j⟩]) (by omega) (by omega) (by simp [ha]) (by rw [tot_append, tot_one]; show tot acc + (e.f1.extract 0 j).size ≤ _; omega); refine ⟨r', hf, Ev.shift ?_⟩; simp only [marginaliaref03_Cut.l0]; rw [rd_tn hr, hj, Int.toNat_natCast, hz]; refine Ev.pos h (Ev.pos (by omega) (Ev.pos (by omega) (Ev.pos (by omega) (Ev.pos (by omega) (Ev.pos (by omega) ?_))))); rw [w64 (n := (i : Int) + 1) (by omega) (by omega), w64 (n := 20001 - (tot acc : Int) - (j : Int)) (by omega) (by omega)]
   have e1 : (20001 - (tot acc : Int) - (j : Int)) = 20001 - (tot (acc ++ [⟨e.f0, e.f1.extract 0 j⟩]) : Int) := by
    rw [tot_append, tot_one]
    show _ = 20001 - ((tot acc + (e.f1.extract 0 j).size : Nat) : Int)
    omega
   rw [e1]; exact hE
  ·refine ⟨acc, ⟨by omega, ht⟩, Ev.shift ?_⟩; simp only [marginaliaref03_Cut.l0]; exact Ev.neg h (Ev.now _)
theorem Cut3_ev (l : List Tn) (hl : l.length ≤ 9223372036854775807) : ∃ r, Fine3 r ∧ Ev (fun k => marginaliaref03_Cut.f k l) r := by
 obtain ⟨r, h1, h2⟩ := cut3_loop l hl 20001 0 [] rfl (by omega) rfl (by simp [tot]); exact ⟨r, h1, h2⟩
/-! ### Text -/
theorem nums_str (l : Bs) : strOfNums (l.map fun b => (b.toNat : Int)) = ba l := by
 apply ba_eq
 rw [strOfNums_data, List.map_map]
 conv => rhs; rw [← List.map_id l]
 apply List.map_congr_left
 intro c _
 simp
theorem rtext_l1 (l : List Tn) (hl : l.length ≤ 100000) (ht : tot l ≤ 100000) : ∀ (r : List Tn) (i : Nat) (acc : Bs), l.drop i = r → acc.length + tot r ≤ 100000 → Ev (fun k => marginaliaref03_Text.l1 k l (acc.map fun b => (b.toNat : Int)) (i : Int)) (ba (acc ++ catS r)) := by
 intro r
 induction r with
 | nil =>
  intro i acc h ha; have := le_of_nil h; refine Ev.shift ?_; simp only [marginaliaref03_Text.l1]; refine Ev.neg (by omega) ?_; rw [nums_str, show acc ++ catS [] = acc from List.append_nil _]; exact Ev.now _
 | cons e r ih =>
  intro i acc h ha; have hlt := lt_of_drop h; rw [tot_cons] at ha; refine Ev.shift ?_; simp only [marginaliaref03_Text.l1]; rw [rd_tn h]; refine Ev.pos (by omega) (Ev.pos (by omega) (Ev.pos (by rw [List.length_map]; omega) ?_))
  have e1 : (acc.map fun b => (b.toNat : Int)) ++ bytesOf e.f1 = (acc ++ e.f1.data.toList).map fun b => (b.toNat : Int) := (by rw [List.map_append]; rfl)
  rw [e1, w64 (n := (i : Int) + 1) (by omega) (by omega)]; have := ih (i + 1) (acc ++ e.f1.data.toList) (drop_next h) (by rw [List.length_append, isize]; omega); rw [List.append_assoc, ← catS_cons] at this
  exact_mod_cast this
theorem rtext_l0 (l : List Tn) (hl : l.length ≤ 100000) (ht : tot l ≤ 100000) : ∀ (r : List Tn) (i n : Nat), l.drop i = r → n + tot r ≤ 100000 → Ev (fun k => marginaliaref03_Text.l0 k l n (i : Int)) (ba (catS l)) := by
 intro r
 induction r with
 | nil =>
  intro i n h ha; have := le_of_nil h; refine Ev.shift ?_; simp only [marginaliaref03_Text.l0]; refine Ev.neg (by omega) (Ev.pos (by omega) ?_); have := rtext_l1 l hl ht l 0 [] rfl (by simpa using ht); exact this
 | cons e r ih =>
  intro i n h ha; have hlt := lt_of_drop h; rw [tot_cons] at ha; refine Ev.shift ?_; simp only [marginaliaref03_Text.l0]; rw [rd_tn h]; refine Ev.pos (by omega) (Ev.pos (by omega) (Ev.pos (by omega) ?_)); rw [w64 (n := (i : Int) + 1) (by omega) (by omega)]
  exact_mod_cast ih (i + 1) (n + e.f1.size) (drop_next h) (by omega)
theorem rText_ev (l : List Tn) (hf : Fine3 l) : Ev (fun k => marginaliaref03_Text.f k l) (ba (catS l)) :=
 rtext_l0 l (by have := hf.1; omega) (by have := hf.2; omega) l 0 0 rfl (by have := hf.2; omega)
theorem joined_go : ∀ (l : List Tn) (acc : Bs), (acc.length + tot l ≤ 20000 → token_joined.go l acc = some (ba (acc ++ catS l), true)) ∧ (¬ acc.length + tot l ≤ 20000 → ∃ s, token_joined.go l acc = some (s, false))
 | [], acc => by
  rw [token_joined.go, show acc ++ catS [] = acc from List.append_nil _]; refine ⟨fun h => ?_, fun h => ⟨⟨acc.toArray⟩, ?_⟩⟩
  ·rw [show decide ((acc.length : Int) ≤ 20000) = true from decide_eq_true (by simp [tot] at h; omega)]; rfl
  ·rw [show decide ((acc.length : Int) ≤ 20000) = false from decide_eq_false (by simp [tot] at h; omega)]
 | t :: r, acc => by
  rw [token_joined.go, tot_cons]; obtain ⟨i1, i2⟩ := joined_go r (acc ++ t.f1.data.toList); rw [List.length_append, isize] at i1 i2; by_cases h1 : (acc.length : Int) > 20000
  ·rw [if_pos h1]; exact ⟨fun h => by omega, fun _ => ⟨_, rfl⟩⟩
  ·rw [if_neg h1]; by_cases h2 : (t.f1.size : Int) > 20000
   ·rw [if_pos h2]; exact ⟨fun h => by omega, fun _ => ⟨_, rfl⟩⟩
   ·rw [if_neg h2]; refine ⟨fun h => ?_, fun h => i2 (by omega)⟩; rw [i1 (by omega), catS_cons, List.append_assoc]
/-- The error of tokens. -/
def chkT (l : List Tn) : Int := if tot l > 20000 ∨ l.length > 20000 then 3 else if lexS (catS l) = l then 0 else 4
theorem ba_data (l : Bs) : (ba l).data.toList = l := ba_list l
theorem lexS_length (l : Bs) : (lexS l).length ≤ l.length := by
 rw [lexS, List.length_map]
 have : ∀ (m : Nat) (l : Bs), l.length ≤ m → (lex l).length ≤ l.length := by
  intro m
  induction m with
  | zero =>
   intro l h; obtain rfl : l = [] := List.eq_nil_of_length_eq_zero (by omega); exact Nat.le_refl _
  | succ m ih =>
   intro l h
   cases l with
   | nil => exact Nat.le_refl _
   | cons c r =>
    have h0 := nx_pos c r; have h1 := ih ((c :: r).drop (nx (c :: r)).2) (by rw [List.length_drop]; simp only [List.length_cons] at *; omega); rw [List.length_drop] at h1; rw [lex_cons, List.length_cons]; simp only [List.length_cons] at *
    omega
 exact this l.length l (Nat.le_refl _)
theorem Text_ev (l : List Tn) (hf : Fine3 l) : Ev (fun k => token_Text.f k l) (if chkT l = 0 then ba (catS l) else ⟨#[]⟩, chkT l) := by
 have h1 := hf.1; unfold token_Text.f token_joined.f; obtain ⟨j1, j2⟩ := joined_go l []; rw [List.length_nil, Nat.zero_add] at j1 j2; by_cases ht : tot l ≤ 20000
 ·refine Ev.bind1 (j1 ht) (Ev.pos rfl (Ev.shift ?_)); simp only [token_Text.j0, List.nil_append]; by_cases hn : (l.length : Int) > 20000
  ·have hc : chkT l = 3 := if_pos (by omega); rw [hc]; exact Ev.pos (decide_eq_true hn) (Ev.now _)
  ·refine Ev.neg (by rw [decide_eq_false hn]; decide) ?_
   have hsz : (ba (catS l)).size = tot l := (by rw [ba_size, catS_length])
   have hL := Lex_ev (ba (catS l)) (by omega); rw [if_neg (by omega), ba_data] at hL; refine Ev.bind hL (Ev.bind (equal_ev (lexS (catS l)) l (by have := lexS_length (catS l); rw [catS_length] at this; omega)) ?_); have hc : chkT l = if lexS (catS l) = l then 0 else 4 := if_neg (by omega); rw [hc]; by_cases he : lexS (catS l) = l
   ·rw [if_pos he]; exact Ev.pos (decide_eq_true he) (Ev.now _)
   ·rw [if_neg he]; exact Ev.neg (by rw [decide_eq_false he]; decide) (Ev.now _)
 ·obtain ⟨s, hs⟩ := j2 ht; have hc : chkT l = 3 := if_pos (by omega); rw [hc]; refine Ev.bind1 hs (Ev.neg (show ¬ (false = true) by decide) (Ev.shift ?_)); simp only [token_Text.j0]; exact Ev.pos trivial (Ev.now _)
theorem rcheck3_j1 (l : List Tn) (hf : Fine3 l) (b : Bool) : Ev (fun k => marginaliaref03_Check.j1 k l b) (if b = true then 3 else if lexS (catS l) = l then 0 else 4) := by
 have h2 := hf.2; refine Ev.shift ?_; simp only [marginaliaref03_Check.j1]
 cases b with
 | true => exact Ev.pos rfl (Ev.now _)
 | false =>
  rw [if_neg (by decide)]
  have hsz : (ba (catS l)).size = tot l := (by rw [ba_size, catS_length])
  have hL := rLex_ev (ba (catS l)) (by omega); rw [ba_data] at hL; refine Ev.neg (by decide) (Ev.bind (rText_ev l hf) (Ev.bind hL (Ev.bind (rSame_ev (lexS (catS l)) l (by have := lexS_length (catS l); rw [catS_length] at this; omega)) ?_))); by_cases he : lexS (catS l) = l
  ·rw [if_pos he]; exact Ev.pos (decide_eq_true he) (Ev.now _)
  ·rw [if_neg he]; exact Ev.neg (by rw [decide_eq_false he]; decide) (Ev.now _)
theorem rcheck3_loop (l : List Tn) (hf : Fine3 l) : ∀ (r : List Tn) (i n : Nat), l.drop i = r → n + tot r = tot l → Ev (fun k => marginaliaref03_Check.l0 k l (n : Int) (i : Int)) (chkT l) := by
 have h1 := hf.1; have h2 := hf.2; intro r
 induction r with
 | nil =>
  intro i n h ha; have := le_of_nil h; refine Ev.shift ?_; simp only [marginaliaref03_Check.l0]; refine Ev.neg (by omega) ?_
  have hn : n = tot l := (by simpa [tot] using ha)
  subst hn; by_cases ht : (tot l : Int) > 20000
  ·have := rcheck3_j1 l hf true; rw [if_pos rfl] at this; rw [show chkT l = 3 from if_pos (by omega)]; exact Ev.pos ht this
  ·have := rcheck3_j1 l hf (decide ((l.length : Int) > 20000)); refine Ev.neg ht ?_; by_cases hn : (l.length : Int) > 20000
   ·rw [if_pos (decide_eq_true hn)] at this; rw [show chkT l = 3 from if_pos (by omega)]; exact this
   ·rw [if_neg (by rw [decide_eq_false hn]; decide)] at this; rw [show chkT l = if lexS (catS l) = l then 0 else 4 from if_neg (by omega)]; exact this
 | cons e r ih =>
  intro i n h ha; have hlt := lt_of_drop h; rw [tot_cons] at ha; refine Ev.shift ?_; simp only [marginaliaref03_Check.l0]; rw [rd_tn h]; refine Ev.pos (by omega) (Ev.pos (by omega) ?_); rw [w64 (n := (i : Int) + 1) (by omega) (by omega), w64 (n := (n : Int) + (e.f1.size : Int)) (by omega) (by omega)]
  exact_mod_cast ih (i + 1) (n + e.f1.size) (drop_next h) (by omega)
theorem rCheck3_ev (l : List Tn) (hf : Fine3 l) : Ev (fun k => marginaliaref03_Check.f k l) (chkT l) := rcheck3_loop l hf l 0 0 rfl (by omega)
/-- The error of Relex. -/
def chk4 (l : List Tn) (m : List Ed) : Int := if chkT l = 0 then chk (tot l : Nat) m else chkT l
theorem rCheck4_ev (l : List Tn) (m : List Ed) (hf : Fine3 l) (hm : Fit m) : Ev (fun k => marginaliaref04_Check.f k l m) (chk4 l m) := by
 have h2 := hf.2; unfold marginaliaref04_Check.f chk4; refine Ev.bind (rCheck3_ev l hf) ?_; by_cases h : chkT l = 0
 ·rw [if_pos h]
  have hsz : (ba (catS l)).size = tot l := (by rw [ba_size, catS_length])
  have hc := rcheck_ev (ba (catS l)) m (by omega) hm; rw [hsz] at hc; exact Ev.pos h (Ev.bind (rText_ev l hf) (Ev.bind hc (Ev.now _)))
 ·rw [if_neg h]; exact Ev.neg h (Ev.now _)
end Go.Proofs.Ytahcpappailjgaa.P

set_option linter.unusedVariables false
set_option linter.unusedSimpArgs false
namespace Go.Proofs.Ytahcpappailjgaa.P
open Go.RowKit Go.Proofs.YtahcpappailjgaaW.PrintWords Go.Proofs.YtahcpappailjgaaW.PrintLast Go.Proofs.YtahcpappailjgaaW.PrintMore
/-- Where the token i begins. -/
def pf (l : List Tn) (i : Nat) : Nat := tot (l.take i)
theorem pf_succ (l : List Tn) (i : Nat) (h : i < l.length) : pf l (i + 1) = pf l i + (l[i]).f1.size := by
 unfold pf; rw [List.take_succ_eq_append_getElem h, tot_append, tot_one]
/-- The places at which tokens begin, and the end of the last one. -/
def IsEnds (e : List Int) (l : List Tn) : Prop := e.length = l.length + 1 ∧ ∀ i, i ≤ l.length → e[i]? = some (pf l i : Int)
theorem IsEnds.val {e : List Int} {l : List Tn} (h : IsEnds e l) (i : Nat) (hi : i ≤ l.length) : rd e (i : Int) = (pf l i : Int) := by
 simp [rd, List.getD_eq_getElem?_getD, h.2 i hi]
/-- Tokens none of which is empty. -/
def Solid (l : List Tn) : Prop := ∀ t ∈ l, 0 < t.f1.size
theorem Solid.lt {l : List Tn} (h : Solid l) {i : Nat} (hi : i < l.length) : pf l i < pf l (i + 1) := by
 rw [pf_succ l i hi]; have := h l[i] (List.getElem_mem hi)
 omega
/-! ### line feeds -/
theorem last_nl (s : ByteArray) (F : Nat) (hF : F ≤ s.size) :
  (Lib.lastIndexByte (s.extract 0 F) 10 = -1 ∧ ∀ j, j < F → s.data.toList[j]? ≠ some 10) ∨ (∃ n : Nat, n < F ∧ Lib.lastIndexByte (s.extract 0 F) 10 = (n : Int) ∧ s.data.toList[n]? = some 10 ∧ ∀ j, n < j → j < F → s.data.toList[j]? ≠ some 10) := by
 have hz : (s.extract 0 F).size = F := (by rw [ByteArray.size_extract]; omega)
 have hB : ∀ j, j < F → ((((s.extract 0 F).data[j]!).toNat : Int) = 10 ↔ s.data.toList[j]? = some 10) := by
  intro j hj
  have h1 : j < s.data.toList.length := (by rw [Ut.size_data]; omega)
  have h2 : j < (s.extract 0 F).data.size := by
   have : (s.extract 0 F).data.size = (s.extract 0 F).size := rfl
   omega
  have e : (s.extract 0 F).data[j]! = s.data.toList[j] := by
   rw [getElem!_pos _ j h2]
   simp [ByteArray.data_extract]
  rw [e, List.getElem?_eq_getElem h1]
  constructor
  ·intro h; rw [(byte_int s.data.toList[j] 10 (by decide)).1 h]; rfl
  ·intro h; injection h with h; rw [h]; rfl
 have h := Lib.lastIndexByte_spec (s.extract 0 F) 10; rw [hz] at h
 rcases h with ⟨h1, h2⟩ | ⟨i, h1, h2, h3, h4⟩
 ·exact .inl ⟨h1, fun j hj e => h2 j hj ((hB j hj).2 e)⟩
 ·exact .inr ⟨i, h1, h2, (hB i h1).1 h3, fun j hj hj2 e => h4 j hj hj2 ((hB j hj2).2 e)⟩
theorem idx_nl : ∀ (l : Bs), (Lib.indexByte l 10 = -1 ∧ ∀ j : Nat, l[j]? ≠ some 10) ∨ (∃ n : Nat, Lib.indexByte l 10 = (n : Int) ∧ l[n]? = some 10 ∧ ∀ j, j < n → l[j]? ≠ some 10)
 | [] => .inl ⟨rfl, fun j e => by simp at e⟩
 | c :: r => by
  rw [Lib.indexByte]; by_cases hc : c = 10
  ·right
   rw [if_pos (by rw [hc]; rfl)]; exact ⟨0, rfl, by rw [hc]; rfl, fun j hj => by omega⟩
  ·rw [if_neg (by simpa using hc)]
   rcases idx_nl r with ⟨e, hn⟩ | ⟨n, e, hn, hj⟩
   ·left
    rw [e]; refine ⟨rfl, fun j q => ?_⟩
    cases j with
    | zero => simp at q; exact hc q
    | succ j => exact hn j (by simpa using q)
   ·right
    rw [e]; have : ((n : Int) == -1) = false := beq_eq_false_iff_ne.2 (by omega); refine ⟨n + 1, ?_, by simpa using hn, fun j hjn q => ?_⟩
    ·simp only [this]
     simp
    ·cases j with
     | zero => simp at q; exact hc q
     | succ j => exact hj j (by omega) (by simpa using q)
theorem index_nl (s : ByteArray) (T : Nat) (hT : T ≤ s.size) :
  (strings_IndexByte.f (s.extract T s.size) 10 = some (-1) ∧ ∀ j, T ≤ j → s.data.toList[j]? ≠ some 10) ∨ (∃ n : Nat, T ≤ n ∧ n < s.size ∧ strings_IndexByte.f (s.extract T s.size) 10 = some ((n : Int) - (T : Int)) ∧ s.data.toList[n]? = some 10 ∧ ∀ j, T ≤ j → j < n → s.data.toList[j]? ≠ some 10) := by
 have e0 : strings_IndexByte.f (s.extract T s.size) 10 = some (Lib.indexByte (s.data.toList.drop T) 10) := by
  unfold strings_IndexByte.f; rw [ext_suf]; rfl
 rw [e0]
 rcases idx_nl (s.data.toList.drop T) with ⟨e, hn⟩ | ⟨n, e, hn, hj⟩
 ·left
  rw [e]; refine ⟨rfl, fun j hj q => hn (j - T) ?_⟩; rw [List.getElem?_drop, show T + (j - T) = j by omega]; exact q
 ·right
  rw [List.getElem?_drop] at hn; have hlt := (List.getElem?_eq_some_iff.1 hn).1; rw [isize] at hlt; rw [e]; refine ⟨T + n, by omega, hlt, by congr 1; omega, hn, fun j h1 h2 q => hj (j - T) (by omega) ?_⟩; rw [List.getElem?_drop, show T + (j - T) = j by omega]; exact q
end Go.Proofs.Ytahcpappailjgaa.P

set_option linter.unusedVariables false
namespace Go.Proofs.Ytahcpappailjgaa.P
open Go.RowKit Go.Proofs.YtahcpappailjgaaW.PrintWords Go.Proofs.YtahcpappailjgaaW.PrintLast Go.Proofs.YtahcpappailjgaaW.PrintMore
theorem alive_ev : Ev (fun k => marginalialaw04_alive.f k) true := Ev.of marginalialaw04_alive.mono (k := 60) (by kernel_rfl)
end Go.Proofs.Ytahcpappailjgaa.P

set_option linter.unusedVariables false
set_option linter.unusedSimpArgs false
namespace Go.Proofs.Ytahcpappailjgaa.P
open Go.RowKit Go.Proofs.YtahcpappailjgaaW.PrintWords Go.Proofs.YtahcpappailjgaaW.PrintLast Go.Proofs.YtahcpappailjgaaW.PrintMore
theorem ext_listB (s : ByteArray) (a b : Nat) : (s.extract a b).data.toList = (s.data.toList.take b).drop a := by
 simp [ByteArray.data_extract, Array.toList_extract, List.extract_eq_take_drop, List.drop_take]
theorem inv_sp (s : ByteArray) (m : Int) : ∀ (l : List Ed) (p b : Int), sp s.size p l = true → 0 ≤ p → p ≤ s.size → m = s.size + b - spanSum l + newSum l → sp m (p + b) (inv s b l) = true
 | [], _, _, _, _, _, _ => rfl
 | e :: r, p, b, h, hp, hq, hm => by
  obtain ⟨h1, h2, h3, h4⟩ := sp_cons h; have ih := inv_sp s m r e.f1 (b + grow e) h4 (by omega) (by omega) (by rw [spanSum_cons, newSum_cons] at hm; unfold grow; omega); have h5 := span_le h4 (by omega); rw [spanSum_cons, newSum_cons] at hm
  have e1 : e.f0 + b + (e.f2.size : Int) = e.f1 + (b + grow e) := (by unfold grow; omega)
  simp only [inv, sp, Bool.and_eq_true, decide_eq_true_eq]; refine ⟨by omega, by omega, by omega, ?_⟩; rw [e1]; exact ih
theorem inv_sums (s : ByteArray) : ∀ (l : List Ed) (p b : Int), sp s.size p l = true → 0 ≤ p → p ≤ s.size → spanSum (inv s b l) = newSum l ∧ (newSum (inv s b l) : Int) = spanSum l
 | [], _, _, _, _, _ => by simp [inv, spanSum, newSum]
 | e :: r, p, b, h, hp, hq => by
  obtain ⟨h1, h2, h3, h4⟩ := sp_cons h; obtain ⟨i1, i2⟩ := inv_sums s r e.f1 (b + grow e) h4 (by omega) (by omega)
  have hz : (s.extract e.f0.toNat e.f1.toNat).size = e.f1.toNat - e.f0.toNat := (by rw [ByteArray.size_extract]; omega)
  simp only [inv]; rw [spanSum_cons, newSum_cons, spanSum_cons, newSum_cons, i1]
  constructor
  ·push_cast; omega
  ·push_cast
   rw [i2, hz]
   omega
theorem cutS_at (s t : ByteArray) (q : Int) (x : List UInt8) (y : List UInt8) (hq : 0 ≤ q) (h : t.data.toList.drop q.toNat = x ++ y) : cutS t q (q + x.length) = x := by
 rw [cutS_eq, List.drop_take, h]
 have : (q + x.length).toNat - q.toNat = x.length := (by omega)
 rw [this]
 simp
theorem inv_app (s t : ByteArray) : ∀ (l : List Ed) (p b : Int), sp s.size p l = true → 0 ≤ p → p ≤ s.size → 0 ≤ p + b → t.data.toList.drop (p + b).toNat = app s p l → app t (p + b) (inv s b l) = s.data.toList.drop p.toNat ∧ inv t (-b) (inv s b l) = l
 | [], p, b, h, hp, hq, hb, ht => by
  refine ⟨?_, rfl⟩; simp only [inv, app]; rw [cutS_eq, List.take_of_length_le (by rw [Ut.size_data]; omega), ht]; simp only [app]; rw [cutS_eq, List.take_of_length_le (by rw [Ut.size_data]; omega)]
 | e :: r, p, b, h, hp, hq, hb, ht => by
  obtain ⟨h1, h2, h3, h4⟩ := sp_cons h; simp only [app] at ht
  have l1 : ((cutS s p e.f0).length : Int) = e.f0 - p := (by rw [cutS_length]; omega)
  have l2 : (e.f2.data.toList.length : Int) = e.f2.size := (by rw [Ut.size_data])
  have e1 : e.f0 + b + (e.f2.size : Int) = e.f1 + (b + grow e) := (by unfold grow; omega)
  have d1 : t.data.toList.drop (e.f0 + b).toNat = e.f2.data.toList ++ app s e.f1 r := by
   have := congrArg (List.drop (cutS s p e.f0).length) ht; rw [List.drop_drop, List.append_assoc, List.drop_left] at this; rw [← this]
   congr 1
   omega
  have d2 : t.data.toList.drop (e.f1 + (b + grow e)).toNat = app s e.f1 r := by
   have := congrArg (List.drop e.f2.data.toList.length) d1; rw [List.drop_drop, List.drop_left] at this; rw [← this]
   congr 1
   omega
  obtain ⟨i1, i2⟩ := inv_app s t r e.f1 (b + grow e) h4 (by omega) (by omega) (by omega) d2
  have c1 : cutS t (p + b) (e.f0 + b) = cutS s p e.f0 := by
   have := cutS_at s t (p + b) (cutS s p e.f0) (e.f2.data.toList ++ app s e.f1 r) hb (by rw [ht, List.append_assoc]); rw [← this]
   congr 1
   omega
  have c2 : cutS t (e.f0 + b) (e.f0 + b + e.f2.size) = e.f2.data.toList := by
   have := cutS_at s t (e.f0 + b) e.f2.data.toList (app s e.f1 r) (by omega) d1; rw [l2] at this; exact this
  constructor
  ·simp only [inv, app]; rw [c1, e1, i1, cutS_eq, ext_listB]
   have : s.data.toList.drop p.toNat = (s.data.toList.take e.f0.toNat).drop p.toNat ++ ((s.data.toList.take e.f1.toNat).drop e.f0.toNat ++ s.data.toList.drop e.f1.toNat) := by
    have g : ∀ (l : List UInt8) (i j : Nat), i ≤ j → l.drop i = (l.take j).drop i ++ l.drop j := by
     intro l i j hij; rw [List.drop_take]
     conv => lhs; rw [← List.take_append_drop (j - i) (l.drop i)]
     rw [List.drop_drop]
     congr 2
     omega
    rw [g s.data.toList p.toNat e.f0.toNat (by omega), g s.data.toList e.f0.toNat e.f1.toNat (by omega)]
   rw [this, List.append_assoc]
  ·simp only [inv]
   have z : (s.extract e.f0.toNat e.f1.toNat).size = e.f1.toNat - e.f0.toNat := (by rw [ByteArray.size_extract]; omega)
   have g : -b + grow ⟨e.f0 + b, e.f0 + b + e.f2.size, s.extract e.f0.toNat e.f1.toNat⟩ = -(b + grow e) := by
    simp only [grow, z]
    omega
   rw [g, i2]
   have x2 : t.extract (e.f0 + b).toNat (e.f0 + b + e.f2.size).toNat = e.f2 := by
    have := congrArg ba c2; simp only [cutS] at this; rw [list_ba, list_ba] at this; exact this
   rw [x2]
   have a0 : e.f0 + b + -b = e.f0 := (by omega)
   have a1 : e.f0 + b + -b + ((s.extract e.f0.toNat e.f1.toNat).size : Int) = e.f1 := (by rw [z]; omega)
   rw [a1, a0]
theorem chk_of {n : Int} {l : List Ed} (h1 : n ≤ 20000) (h2 : l.length ≤ 100) (h3 : sp n 0 l = true) (h4 : n - spanSum l + newSum l ≤ 20000) : chk n l = 0 := by
 unfold chk; rw [if_neg (by omega), if_neg (by omega), if_pos h3, if_neg (by omega)]
theorem back (s : ByteArray) (l : List Ed) (h : chk s.size l = 0) : chk (ba (app s 0 l)).size (inv s 0 l) = 0 ∧ ba (app (ba (app s 0 l)) 0 (inv s 0 l)) = s ∧ inv (ba (app s 0 l)) 0 (inv s 0 l) = l ∧ Fit (inv s 0 l) ∧ (ba (app s 0 l)).size ≤ 20000 := by
 obtain ⟨h1, h2, h3, h4⟩ := chk_ok h; have hl := app_length s l 0 h3 (by omega) (by omega); obtain ⟨s1, s2⟩ := inv_sums s l 0 0 h3 (by omega) (by omega); have hle := span_le h3 (by omega)
 have hsz : ((ba (app s 0 l)).size : Int) = s.size - spanSum l + newSum l := (by rw [ba_size]; omega)
 obtain ⟨i1, i2⟩ := inv_app s (ba (app s 0 l)) l 0 0 h3 (by omega) (by omega) (by omega) (by rw [ba_list]; rfl); refine ⟨chk_of (by omega) (by rw [inv_length]; exact h2) (by have := inv_sp s (ba (app s 0 l)).size l 0 0 h3 (by omega) (by omega) (by omega); exact this) (by rw [s1, s2]; omega), ?_, i2, ⟨by rw [inv_length]; omega, by omega⟩, by omega⟩; have i3 : app (ba (app s 0 l)) 0 (inv s 0 l) = s.data.toList := i1; rw [i3, list_ba]
end Go.Proofs.Ytahcpappailjgaa.P

set_option linter.unusedVariables false
namespace Go.Proofs.Ytahcpappailjgaa.P
open Go.RowKit Go.Proofs.Ytahcpappailjgaa Go.Proofs.YtahcpappailjgaaW.PrintWords Go.Proofs.YtahcpappailjgaaW.PrintLast Go.Proofs.YtahcpappailjgaaW.PrintMore
theorem bt_ten (s : ByteArray) (i : Nat) (h : i < s.size) : (bt s (i : Int) = 10) ↔ s.data.toList[i]? = some 10 := by
 obtain ⟨c, r, hc⟩ := drop_cons_of_lt h; obtain ⟨_, hb⟩ := bt_drop hc
 have h1 : s.data.toList[i]? = some c := by
  have := congrArg (fun x : Bs => x[0]?) hc
  simpa [List.getElem?_drop] using this
 rw [hb, h1]; exact ⟨fun q => by rw [(byte_int c 10 (by decide)).1 q]; rfl, fun q => by injection q with q; rw [q]; rfl⟩
/-- The beginning of the line in which a place is. -/
def lo (X : Bs) : Nat → Nat
 | 0 => 0
 | p + 1 => if X[p]? = some 10 then p + 1 else lo X p
theorem lo_le (X : Bs) : ∀ p, lo X p ≤ p
 | 0 => Nat.le_refl _
 | p + 1 => by
  have := lo_le X p; rw [lo]
  split <;> omega
theorem lo_no (X : Bs) : ∀ p n, n < p → X[n]? = some 10 → (∀ j, n < j → j < p → X[j]? ≠ some 10) → lo X p = n + 1
 | 0, n, h, _, _ => by omega
 | p + 1, n, h, hn, hj => by
  rw [lo]; by_cases e : n = p
  ·subst e; rw [if_pos hn]
  ·rw [if_neg (hj p (by omega) (by omega)), lo_no X p n (by omega) hn (fun j h1 h2 => hj j h1 (by omega))]
theorem lo_none (X : Bs) : ∀ p, (∀ j, j < p → X[j]? ≠ some 10) → lo X p = 0
 | 0, _ => rfl
 | p + 1, h => by rw [lo, if_neg (h p (by omega)), lo_none X p (fun j hj => h j (by omega))]
theorem lo_mono (X : Bs) (p : Nat) : ∀ d, lo X p ≤ lo X (p + d)
 | 0 => Nat.le_refl _
 | d + 1 => by
  have := lo_mono X p d; have := lo_le X (p + d); rw [show p + (d + 1) = (p + d) + 1 by omega, lo]
  split <;> omega
/-- The end of the line in which a place is. -/
def hi (X : Bs) (p : Nat) : Nat := p + rn nl (X.drop p)
theorem hi_at (X : Bs) (p : Nat) (h : X[p]? = some 10) : hi X p = p := by
 unfold hi; obtain ⟨hl, e⟩ := List.getElem?_eq_some_iff.1 h; rw [List.drop_eq_getElem_cons hl, rn, e, if_neg (by decide)]; rfl
theorem hi_next (X : Bs) (p : Nat) (hp : p < X.length) (h : X[p]? ≠ some 10) : hi X p = hi X (p + 1) := by
 unfold hi
 have h1 : nl X[p] = true := by
  unfold nl; rw [bne_iff_ne]; intro e; exact h (by rw [List.getElem?_eq_getElem hp, e])
 rw [List.drop_eq_getElem_cons hp, rn, if_pos h1]
 omega
theorem hi_end (X : Bs) (p : Nat) (hp : X.length ≤ p) : hi X p = p := by
 unfold hi; rw [List.drop_of_length_le hp]; rfl
theorem hi_le (X : Bs) (p : Nat) (hp : p ≤ X.length) : p ≤ hi X p ∧ hi X p ≤ X.length := by
 unfold hi; have := rn_le nl (X.drop p); rw [List.length_drop] at this
 omega
theorem hi_nl (X : Bs) : ∀ (d p n : Nat), n = p + d → X[n]? = some 10 → (∀ j, p ≤ j → j < n → X[j]? ≠ some 10) → hi X p = n
 | 0, p, n, h, hn, _ => by
  obtain rfl : p = n := (by omega)
  exact hi_at X p hn
 | d + 1, p, n, h, hn, hj => by
  have hl := (List.getElem?_eq_some_iff.1 hn).1; rw [hi_next X p (by omega) (hj p (Nat.le_refl _) (by omega)), hi_nl X d (p + 1) n (by omega) hn (fun j h1 h2 => hj j (by omega) h2)]
theorem hi_none (X : Bs) : ∀ (d p : Nat), X.length = p + d → (∀ j, p ≤ j → X[j]? ≠ some 10) → hi X p = X.length
 | 0, p, h, _ => by rw [hi_end X p (by omega)]; omega
 | d + 1, p, h, hj => by rw [hi_next X p (by omega) (hj p (Nat.le_refl _)), hi_none X d (p + 1) (by omega) (fun j h1 => hj j (by omega))]
def en (X : Bs) (q : Nat) : Nat := min (hi X q + 1) X.length
def tally (X : Bs) : List Ed → Nat → Nat → Nat
 | [], _, sum => sum
 | e :: r, done, sum => tally X r (max done (en X e.f1.toNat)) (sum + (en X e.f1.toNat - max (lo X e.f0.toNat) done))
theorem mx0 (a b : Nat) : mx ((a : Int) - (b : Int)) 0 = ((a - b : Nat) : Int) := by unfold mx; split <;> omega
theorem last_lo (x : ByteArray) (F : Nat) (hF : F ≤ x.size) (hz : x.size ≤ 20001) : strings_LastIndexByte.f (x.extract 0 F) 10 = some ((lo x.data.toList F : Int) - 1) := by
 unfold strings_LastIndexByte.f; rw [if_pos (by rw [ByteArray.size_extract]; omega)]
 rcases last_nl x F hF with ⟨h1, h2⟩ | ⟨n, h1, h2, h3, h4⟩
 ·rw [h1, lo_none _ F h2]; rfl
 ·rw [h2, lo_no _ F n h1 h3 h4]; congr 1; omega
theorem line_loop (x : ByteArray) (hz : x.size ≤ 20000) (B : List Ed) (hB : B.length ≤ 102) : ∀ (r : List Ed) (i sum done : Nat) (p : Int), B.drop i = r → sp x.size p r = true → 0 ≤ p → sum ≤ i * 20000 → done ≤ x.size →
  Ev (fun k => relex_Line.l0 k x (sum : Int) (done : Int) B (B.length : Int) (i : Int)) ((tally x.data.toList r done sum : Int), 0) := by
 intro r
 induction r with
 | nil =>
  intro i sum done p h hsp h0 hs hd; have := le_of_nil h; refine Ev.shift ?_; simp only [relex_Line.l0, tally]; exact Ev.neg (by omega) (Ev.now _)
 | cons e r ih =>
  intro i sum done p h hsp h0 hs hd; have hlt := lt_of_drop h; obtain ⟨g1, g2, g3, g4⟩ := sp_cons hsp
  obtain ⟨F, hF⟩ : ∃ F : Nat, e.f0 = (F : Int) := ⟨e.f0.toNat, by omega⟩
  obtain ⟨To, hTo⟩ : ∃ F : Nat, e.f1 = (F : Int) := ⟨e.f1.toNat, by omega⟩
  have hFN : e.f0.toNat = F := (by omega)
  have hTN : e.f1.toNat = To := (by omega)
  have hXl : x.data.toList.length = x.size := isize x; have hlo := lo_le x.data.toList F; have hle := hi_le x.data.toList To (by omega)
  have hen : en x.data.toList To ≤ x.size := (by unfold en; omega)
  have IH := ih (i + 1) (sum + (en x.data.toList To - max (lo x.data.toList F) done)) (max done (en x.data.toList To)) e.f1 (drop_next h) g4 (by omega) (by omega) (by omega); rw [tally, hFN, hTN]
  have hz1 : wrap64 ((lo x.data.toList F : Int) - 1 + 1) = (lo x.data.toList F : Int) := (by rw [w64 (by omega) (by omega)]; omega)
  have hz2 : wrap64 ((i : Int) + 1) = ((i + 1 : Nat) : Int) := (w64 (by omega) (by omega)).trans (by omega); refine Ev.shift ?_; simp only [relex_Line.l0]; rw [rd_at h, hF, hTo, hz2]; simp only [Int.toNat_natCast]; refine Ev.pos (by clear hz1 hz2; omega) (Ev.pos (by clear hz1 hz2; omega) (Ev.pos (by clear hz1 hz2; omega) (Ev.pos (by clear hz1 hz2; omega) (Ev.pos (by clear hz1 hz2; omega) (Ev.bind1 (last_lo x F (by clear hz1 hz2; omega) (by clear hz1 hz2; omega)) (Ev.pos (by clear hz1 hz2; omega) (Ev.pos (by clear hz1 hz2; omega) ?_))))))); rw [hz1, mx_nat]; clear hz1 hz2
  rcases index_nl x To (by omega) with ⟨hidx, hno⟩ | ⟨n, hn1, hn2, hidx, hnl, hno⟩
  ·have e1 : en x.data.toList To = x.size := by
    unfold en; rw [hi_none x.data.toList (x.size - To) To (by omega) hno]
    omega
   rw [e1] at IH ⊢; refine Ev.bind1 hidx (Ev.neg (by omega) ?_); rw [w64 (n := (x.size : Int) - _) (by omega) (by omega), mx0, mx_nat, w64 (by omega) (by omega)]
   exact_mod_cast IH
  ·have e1 : en x.data.toList To = n + 1 := by
    unfold en; rw [hi_nl x.data.toList (n - To) To n (by omega) hnl hno]
    omega
   rw [e1] at IH ⊢; refine Ev.bind1 hidx (Ev.pos (by omega) ?_); rw [w64 (n := (To : Int) + ((n : Int) - (To : Int))) (by omega) (by omega), show (To : Int) + ((n : Int) - (To : Int)) = (n : Int) by omega, w64 (n := (n : Int) + 1) (by omega) (by omega), show (n : Int) + 1 = ((n + 1 : Nat) : Int) from rfl, w64 (n := ((n + 1 : Nat) : Int) - _) (by omega) (by omega), mx0, mx_nat, w64 (by omega) (by omega)]
   exact_mod_cast IH
/-! ### the specification -/
def setR : List Bool → Nat → Nat → List Bool
 | M, _, 0 => M
 | M, a, n + 1 => setR (M.set a true) (a + 1) n
theorem setR_length : ∀ (n : Nat) (M : List Bool) (a : Nat), (setR M a n).length = M.length
 | 0, M, a => rfl
 | n + 1, M, a => by rw [setR, setR_length n, List.length_set]
theorem setR_get : ∀ (n : Nat) (M : List Bool) (a j : Nat), a + n ≤ M.length → (setR M a n)[j]? = if a ≤ j ∧ j < a + n then some true else M[j]?
 | 0, M, a, j, h => by rw [setR, if_neg (by omega)]
 | n + 1, M, a, j, h => by
  rw [setR, setR_get n (M.set a true) (a + 1) j (by rw [List.length_set]; omega)]; by_cases h1 : a + 1 ≤ j ∧ j < a + 1 + n
  ·rw [if_pos h1, if_pos (by omega)]
  ·rw [if_neg h1, List.getElem?_set]; by_cases h2 : a = j
   ·rw [if_pos h2, if_pos (by omega), if_pos (by omega)]
   ·rw [if_neg h2, if_neg (by omega)]
theorem cnt_set : ∀ (M : List Bool) (a : Nat), a < M.length → (M.set a true).count true = M.count true + (if M[a]? = some true then 0 else 1)
 | [], a, h => by simp at h
 | b :: M, 0, h => by
  cases b <;> simp
 | b :: M, a + 1, h => by
  have := cnt_set M a (by simpa using h); rw [List.set_cons_succ, List.count_cons, List.count_cons, this, List.getElem?_cons_succ]
  omega
theorem cnt_setR (D : Nat) : ∀ (n : Nat) (M : List Bool) (a : Nat), a + n ≤ M.length → (∀ j, a ≤ j → j < a + n → (M[j]? = some true ↔ j < D)) → (setR M a n).count true = M.count true + (a + n - max a D)
 | 0, M, a, h, hj => by rw [setR]; omega
 | n + 1, M, a, h, hj => by
  rw [setR, cnt_setR D n (M.set a true) (a + 1) (by rw [List.length_set]; omega) (fun j h1 h2 => by
   rw [List.getElem?_set, if_neg (by omega)]
   exact hj j (by omega) (by omega)), cnt_set M a (by omega)]
  by_cases hD : a < D
  ·rw [if_pos ((hj a (Nat.le_refl _) (by omega)).2 hD)]
   omega
  ·rw [if_neg (fun q => hD ((hj a (Nat.le_refl _) (by omega)).1 q))]
   omega
def paint (X : Bs) : List Ed → List Bool → List Bool
 | [], M => M
 | e :: r, M => paint X r (setR M (lo X e.f0.toNat) (en X e.f1.toNat - lo X e.f0.toNat))
theorem paint_count (X : Bs) : ∀ (r : List Ed) (M : List Bool) (A D : Nat) (p : Int), sp X.length p r = true → 0 ≤ p → M.length = X.length → A ≤ lo X p.toNat → D ≤ X.length →
  (∀ k, A ≤ k → k < D → M[k]? = some true) → (∀ k, D ≤ k → k < X.length → M[k]? = some false) → (paint X r M).count true = tally X r D (M.count true)
 | [], M, A, D, p, h, h0, hM, hA, hD, h1, h2 => rfl
 | e :: r, M, A, D, p, h, h0, hM, hA, hD, h1, h2 => by
  obtain ⟨g1, g2, g3, g4⟩ := sp_cons h
  obtain ⟨F, hF⟩ : ∃ F : Nat, e.f0 = (F : Int) := ⟨e.f0.toNat, by omega⟩
  obtain ⟨To, hTo⟩ : ∃ F : Nat, e.f1 = (F : Int) := ⟨e.f1.toNat, by omega⟩
  obtain ⟨q, hq⟩ : ∃ F : Nat, p = (F : Int) := ⟨p.toNat, by omega⟩
  have hFN : e.f0.toNat = F := (by omega)
  have hTN : e.f1.toNat = To := (by omega)
  have hqN : p.toNat = q := (by omega)
  rw [hqN] at hA; have m1 := lo_mono X q (F - q); rw [show q + (F - q) = F by omega] at m1; have m2 := lo_mono X F (To - F); rw [show F + (To - F) = To by omega] at m2; have l1 := lo_le X F; have l2 := hi_le X To (by omega)
  have hen : en X To ≤ X.length ∧ lo X F ≤ en X To := (by unfold en; omega)
  rw [paint, tally, hFN, hTN]; generalize lo X F = a at *; generalize en X To = b at *
  have hc := cnt_setR D (b - a) M a (by omega) (fun j j1 j2 => ⟨fun w => (by
   rcases Nat.lt_or_ge j D with q | q
   ·exact q
   ·rw [h2 j q (by omega)] at w; cases w), fun w => h1 j (by omega) w⟩)
  rw [show a + (b - a) - max a D = b - max a D by omega] at hc; rw [← hc]; have hg := setR_get (b - a) M a
  rcases Nat.lt_or_ge D b with hb | hb
  ·rw [show max D b = b by omega]; refine paint_count X r _ a b e.f1 g4 (by omega) (by rw [setR_length]; exact hM) (by rw [hTN]; exact m2) (by omega) (fun k k1 k2 => ?_) (fun k k1 k2 => ?_)
   ·rw [hg k (by omega), if_pos (by omega)]
   ·rw [hg k (by omega), if_neg (by omega)]; exact h2 k (by omega) k2
  ·rw [show max D b = D by omega]; refine paint_count X r _ A D e.f1 g4 (by omega) (by rw [setR_length]; exact hM) (by rw [hTN]; omega) (by omega) (fun k k1 k2 => ?_) (fun k k1 k2 => ?_)
   ·rw [hg k (by omega)]
    split
    ·rfl
    ·exact h1 k k1 k2
   ·rw [hg k (by omega), if_neg (by omega)]; exact h2 k k1 k2
theorem rline_l4 (M : List Bool) (hM : M.length ≤ 20000) : ∀ (r : List Bool) (i c : Nat), M.drop i = r → c ≤ i → Ev (fun k => marginaliaref04_Line.l4 k M (c : Int) (i : Int)) ((c + r.count true : Nat) : Int) := by
 intro r
 induction r with
 | nil =>
  intro i c h hc; have := le_of_nil h; refine Ev.shift ?_; simp only [marginaliaref04_Line.l4]; exact Ev.neg (by omega) (Ev.now _)
 | cons b r ih =>
  intro i c h hc; have hlt := lt_of_drop h
  have hb : rdOf false M (i : Int) = b := by
   have h1 : M[i]? = some b := by
    have := congrArg (fun x : List Bool => x[0]?) h
    simpa [List.getElem?_drop] using this
   simp [rdOf, List.getD_eq_getElem?_getD, h1]
  refine Ev.shift ?_; simp only [marginaliaref04_Line.l4]; rw [hb, w64 (n := (i : Int) + 1) (by omega) (by omega), w64 (n := (c : Int) + 1) (by omega) (by omega)]; refine Ev.pos (by omega) (Ev.pos (by omega) ?_)
  cases b with
  | true =>
   have := ih (i + 1) (c + 1) (drop_next h) (by omega); rw [show c + (true :: r).count true = c + 1 + r.count true by rw [List.count_cons_self]; omega]; exact Ev.pos rfl this
  | false =>
   have := ih (i + 1) c (drop_next h) (by omega); rw [show c + (false :: r).count true = c + r.count true by rw [List.count_cons_of_ne (by decide)]]; exact Ev.neg (by decide) this
theorem rline_l3 (x : ByteArray) (hz : x.size ≤ 20000) (P : List Sp) (ii : Int) (tz : Nat) (res : Int) : ∀ (n a : Nat) (M : List Bool), M.length = x.size → a + n = min (tz + 1) x.size → Ev (fun k => marginaliaref04_Line.l0 k x P (setR M a n) (wrap64 (ii + 1))) res → Ev (fun k => marginaliaref04_Line.l3 k x P M ii (tz : Int) (a : Int)) res
 | 0, a, M, hM, ha, h => by
  refine Ev.shift ?_; simp only [marginaliaref04_Line.l3]; by_cases h1 : (a : Int) ≤ (tz : Int)
  ·exact Ev.pos h1 (Ev.neg (by omega) h)
  ·exact Ev.neg h1 h
 | n + 1, a, M, hM, ha, h => by
  have := rline_l3 x hz P ii tz res n (a + 1) (M.set a true) (by rw [List.length_set]; exact hM) (by omega) h; refine Ev.shift ?_; simp only [marginaliaref04_Line.l3]; rw [w64 (n := (a : Int) + 1) (by omega) (by omega), Int.toNat_natCast]; exact Ev.pos (by omega) (Ev.pos (by omega) (Ev.pos (by omega) (Ev.pos (by omega) this)))
theorem rline_l2 (x : ByteArray) (hz : x.size ≤ 20000) (P : List Sp) (M : List Bool) (ii from_ res : Int) : ∀ (d t : Nat), t + d = x.size → Ev (fun k => marginaliaref04_Line.j4 k x P M ii from_ (hi x.data.toList t : Int)) res → Ev (fun k => marginaliaref04_Line.l2 k x P M ii from_ (t : Int)) res
 | 0, t, ht, h => by
  have hXl : x.data.toList.length = x.size := isize x; rw [hi_end _ t (by omega)] at h; refine Ev.shift ?_; simp only [marginaliaref04_Line.l2]; exact Ev.neg (by omega) h
 | d + 1, t, ht, h => by
  have hXl : x.data.toList.length = x.size := isize x; refine Ev.shift ?_; simp only [marginaliaref04_Line.l2]; by_cases hb : x.data.toList[t]? = some 10
  ·rw [hi_at _ t hb] at h; exact Ev.pos (by omega) (Ev.pos (by omega) (Ev.pos ((bt_ten x t (by omega)).2 hb) h))
  ·rw [hi_next _ t (by omega) hb] at h; have := rline_l2 x hz P M ii from_ res d (t + 1) (by omega) h; rw [w64 (n := (t : Int) + 1) (by omega) (by omega)]; exact Ev.pos (by omega) (Ev.pos (by omega) (Ev.neg (fun q => hb ((bt_ten x t (by omega)).1 q)) this))
theorem rline_l1 (x : ByteArray) (hz : x.size ≤ 20000) (P : List Sp) (M : List Bool) (ii tz res : Int) : ∀ (f : Nat), f ≤ x.size → Ev (fun k => marginaliaref04_Line.j2 k x P M ii (lo x.data.toList f : Int) tz) res → Ev (fun k => marginaliaref04_Line.l1 k x P M ii (f : Int) tz) res
 | 0, hf, h => by
  refine Ev.shift ?_; simp only [marginaliaref04_Line.l1]; exact Ev.neg (by omega) h
 | f + 1, hf, h => by
  refine Ev.shift ?_; simp only [marginaliaref04_Line.l1]
  have e1 : wrap64 (((f + 1 : Nat) : Int) - 1) = (f : Int) := (by rw [w64 (by omega) (by omega)]; omega)
  rw [e1]; clear e1; rw [lo] at h; by_cases hb : x.data.toList[f]? = some 10
  ·rw [if_pos hb] at h; exact Ev.pos (by omega) (Ev.pos (by omega) (Ev.pos (by omega) (Ev.pos ((bt_ten x f (by omega)).2 hb) h)))
  ·rw [if_neg hb] at h; exact Ev.pos (by omega) (Ev.pos (by omega) (Ev.pos (by omega) (Ev.neg (fun q => hb ((bt_ten x f (by omega)).1 q)) (rline_l1 x hz P M ii tz res f (by omega) h))))
theorem rline_l0 (x : ByteArray) (hz : x.size ≤ 20000) (P : List Sp) (hP : P.length ≤ 102) : ∀ (q : List Sp) (r : List Ed) (i : Nat) (M : List Bool) (p : Int), P.drop i = q → q.map (fun s => (s.f0, s.f1)) = r.map (fun e => (e.f0, e.f1)) → sp x.size p r = true → 0 ≤ p → M.length = x.size →
  Ev (fun k => marginaliaref04_Line.l0 k x P M (i : Int)) ((paint x.data.toList r M).count true : Int)
 | [], r, i, M, p, h, hq, hsp, h0, hM => by
  obtain rfl : r = [] := by cases r with
   | nil => rfl
   | cons e r => simp at hq
  have := le_of_nil h; have hl := rline_l4 M (by omega) M 0 0 rfl (Nat.le_refl _); rw [Nat.zero_add] at hl; refine Ev.shift ?_; simp only [marginaliaref04_Line.l0, paint]; exact Ev.neg (by omega) hl
 | s :: q, r, i, M, p, h, hq, hsp, h0, hM => by
  cases r with
  | nil => simp at hq
  | cons e r =>
   simp only [List.map_cons, List.cons.injEq, Prod.mk.injEq] at hq; obtain ⟨⟨q1, q2⟩, q3⟩ := hq; have hlt := lt_of_drop h; obtain ⟨g1, g2, g3, g4⟩ := sp_cons hsp
   obtain ⟨F, hF⟩ : ∃ F : Nat, e.f0 = (F : Int) := ⟨e.f0.toNat, by omega⟩
   obtain ⟨To, hTo⟩ : ∃ F : Nat, e.f1 = (F : Int) := ⟨e.f1.toNat, by omega⟩
   have hFN : e.f0.toNat = F := (by omega)
   have hTN : e.f1.toNat = To := (by omega)
   have hXl : x.data.toList.length = x.size := isize x; have l1 := lo_le x.data.toList F; have l2 := hi_le x.data.toList To (by omega); have IH := rline_l0 x hz P hP q r (i + 1) (setR M (lo x.data.toList F) (en x.data.toList To - lo x.data.toList F)) e.f1 (drop_next h) q3 g4 (by omega) (by rw [setR_length]; exact hM); rw [paint, hFN, hTN]; have hw : ((i + 1 : Nat) : Int) = wrap64 ((i : Int) + 1) := ((w64 (by omega) (by omega)).trans (by omega)).symm; rw [hw] at IH; refine Ev.shift ?_; simp only [marginaliaref04_Line.l0]; have hrd : rd_T75 P (i : Int) = s := rd_sp h; rw [hrd, q1, q2, hF, hTo]; clear hw; refine Ev.pos (by omega) (Ev.pos (by omega) ?_); refine rline_l1 x hz P M (i : Int) (To : Int) _ F (by omega) (Ev.shift ?_); simp only [marginaliaref04_Line.j2]; refine rline_l2 x hz P M (i : Int) _ _ (x.size - To) To (by omega) (Ev.shift ?_); simp only [marginaliaref04_Line.j4]; exact rline_l3 x hz P (i : Int) (hi x.data.toList To) _ (en x.data.toList To - lo x.data.toList F) (lo x.data.toList F) M hM (by unfold en; omega) IH
theorem places_inv (s : ByteArray) : ∀ (l : List Ed) (b : Int), (places b l).map (fun s => (s.f0, s.f1)) = (inv s b l).map (fun e => (e.f0, e.f1))
 | [], b => rfl
 | e :: r, b => by
  rw [places, inv, List.map_cons, List.map_cons, places_inv s r]
theorem rLine_ev (s : ByteArray) (m : List Ed) (hf : Fit m) (hc : chk s.size m = 0) : Ev (fun k => marginaliaref04_Line.f k s m) ((tally (app s 0 m) (inv s 0 m) 0 0 : Nat) : Int) := by
 obtain ⟨c1, c2, c3, c4⟩ := chk_ok hc; obtain ⟨b1, b2, b3, b4, b5⟩ := back s m hc; obtain ⟨d1, d2, d3, d4⟩ := chk_ok b1; have hpl := places_length m 0; have hA := rapply_ev s m hc
 have hPl : Ev (fun k => marginaliaref01_Places.f k m) (places 0 m) := by
  have := places_loop s.size (by omega) m hf.1 m 0 0 0 [] rfl c3 (Int.le_refl _) (by omega) (by omega) (by have := hf.2; omega) (Nat.zero_le _); rw [List.nil_append] at this; exact this
 unfold marginaliaref04_Line.f; refine Ev.bind hA (Ev.bind hPl (Ev.pos (by omega) (Ev.pos (by omega) ?_))); rw [Int.toNat_natCast]; have hz : (ba (app s 0 m)).size ≤ 20000 := b5; have hL := rline_l0 (ba (app s 0 m)) hz (places 0 m) (by rw [hpl]; omega) (places 0 m) (inv s 0 m) 0 (List.replicate (ba (app s 0 m)).size false) 0 rfl (places_inv s m 0) d3 (Int.le_refl _) (by simp); have hX : (ba (app s 0 m)).data.toList = app s 0 m := ba_list _; have hXs : (ba (app s 0 m)).size = (app s 0 m).length := ba_size _; rw [hX, hXs] at hL; rw [hXs] at d3; have hp := paint_count (app s 0 m) (inv s 0 m) (List.replicate (app s 0 m).length false) 0 0 0 d3 (Int.le_refl _) (by simp) (Nat.zero_le _) (Nat.zero_le _) (fun k _ hk => by omega) (fun k _ hk => by rw [List.getElem?_replicate, if_pos hk]); rw [hp, show (List.replicate (app s 0 m).length false).count true = 0 by rw [List.count_replicate]; rfl] at hL; rw [hXs]; exact hL
theorem Line_ev (l : List Tn) (m : List Ed) (hf : Fine3 l) (hm : Fit m) : Ev (fun k => relex_Line.f k l m) (if chk4 l m = 0 then ((tally (app (ba (catS l)) 0 m) (inv (ba (catS l)) 0 m) 0 0 : Nat) : Int) else 0, chk4 l m) := by
 have hf2 := hf.2; have hTx := Text_ev l hf
 have hsz : (ba (catS l)).size = tot l := (by rw [ba_size, catS_length])
 unfold relex_Line.f chk4; by_cases hT : chkT l = 0
 ·rw [if_pos hT]; simp only [hT, if_true] at hTx; have hAp := apply_ev (ba (catS l)) m (by omega) hm; by_cases hc : chk (tot l : Nat) m = 0
  ·have hc' : chk (ba (catS l)).size m = 0 := (by rw [hsz]; exact hc)
   have hI := invert_ev (ba (catS l)) m (by omega) hm; rw [if_pos hc', hc'] at hAp hI; obtain ⟨b1, b2, b3, b4, b5⟩ := back (ba (catS l)) m hc'; obtain ⟨d1, d2, d3, d4⟩ := chk_ok b1; have hX : (ba (app (ba (catS l)) 0 m)).data.toList = app (ba (catS l)) 0 m := ba_list _; have hloop := line_loop (ba (app (ba (catS l)) 0 m)) b5 (inv (ba (catS l)) 0 m) b4.1 (inv (ba (catS l)) 0 m) 0 0 0 0 rfl d3 (Int.le_refl _) (Nat.zero_le _) (Nat.zero_le _); rw [hX] at hloop; rw [if_pos hc, hc]; exact Ev.bind hTx (Ev.pos rfl (Ev.bind hAp (Ev.pos rfl (Ev.bind hI hloop))))
  ·rw [hsz, if_neg hc] at hAp; rw [if_neg hc]; exact Ev.bind hTx (Ev.pos rfl (Ev.bind hAp (Ev.neg hc (Ev.now _))))
 ·rw [if_neg hT]; simp only [if_neg hT] at hTx; rw [if_neg hT]; exact Ev.bind hTx (Ev.neg hT (Ev.now _))
end Go.Proofs.Ytahcpappailjgaa.P
namespace Go.Proofs.Ytahcpappailjgaa.Pure
open Go.RowKit Go.Proofs.Ytahcpappailjgaa Go.Proofs.Ytahcpappailjgaa.P Go.Proofs.YtahcpappailjgaaW.PrintWords
theorem RelexLines : ∀ (a0 : List (S59)) (a1 : List (S39)), (fun l => l.length ≤ 9223372036854775807 ∧ ∀ a ∈ l, ok59 a) a0 → (fun l => l.length ≤ 9223372036854775807 ∧ ∀ a ∈ l, ok39 a) a1 → ∃ k, marginalialaw04_RelexLines.f k a0 a1 = some true := by
 intro a0 a1 h0 h1
 apply Ev.rounds
 obtain ⟨l, hl, hL⟩ := Cut3_ev a0 h0.1; have hf : Fit (cut 2000 a1) := (cut_fine h1.2).fit (by omega); unfold marginalialaw04_RelexLines.f; refine Ev.bind hL (Ev.bind (Cut_ev a1 2000 h1.1) ?_); generalize cut 2000 a1 = m at hf ⊢; have hC := rCheck4_ev l m hl hf; have hLi := Line_ev l m hl hf; by_cases hc : chk4 l m = 0
 ·have hT : chkT l = 0 := by
   unfold chk4 at hc; by_cases h : chkT l = 0
   ·exact h
   ·rw [if_neg h] at hc; exact absurd hc h
  have hM : chk (tot l : Nat) m = 0 := by
   unfold chk4 at hc
   rwa [if_pos hT] at hc
  have hsz : (ba (catS l)).size = tot l := (by rw [ba_size, catS_length])
  rw [if_pos hc, hc] at hLi; rw [hc] at hC; exact Ev.bind hLi (Ev.bind hC (Ev.pos rfl (Ev.bind (rText_ev l hl) (Ev.bind (rLine_ev (ba (catS l)) m hf (by rw [hsz]; exact hM)) (Ev.pos rfl (Ev.pos rfl (Ev.bind alive_ev (Ev.now _))))))))
 ·rw [if_neg hc] at hLi; exact Ev.bind hLi (Ev.bind hC (Ev.neg hc (Ev.pos rfl (Ev.pos rfl (Ev.bind alive_ev (Ev.now _))))))
end Go.Proofs.Ytahcpappailjgaa.Pure

