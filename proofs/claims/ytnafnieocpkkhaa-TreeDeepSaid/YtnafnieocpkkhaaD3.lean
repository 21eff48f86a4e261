/- What the claim's row needs of the seat's texts, part 3: put together by a program of this session (declarations that no text of the claim names are left out). -/

import Derived.Test.YtnafnieocpkkhaaD2
set_option linter.unusedVariables false
set_option linter.unusedSimpArgs false
namespace Go.Proofs.Ytnafnieocpkkhaa.P
open Go.RowKit Go.Proofs.YtnafnieocpkkhaaW.PrintWords Go.Proofs.YtnafnieocpkkhaaW.PrintLast Go.Proofs.YtnafnieocpkkhaaW.PrintMore
/-! ### bytes -/
abbrev Bs := List UInt8
theorem bt_drop {s : ByteArray} {i : Nat} {c : UInt8} {r : Bs} (h : s.data.toList.drop i = c :: r) : i < s.size ∧ bt s (i : Int) = (c.toNat : Int) := by
 have h0 : i < s.size := by
  have := congrArg List.length h; simp only [List.length_drop, List.length_cons] at this; rw [Ut.size_data] at this
  omega
 refine ⟨h0, ?_⟩; rw [← bt_at s (i : Int) h0]
 have h1 : s.data.toList[i]? = some c := by
  have := congrArg (fun x : Bs => x[0]?) h
  simpa [List.getElem?_drop] using this
 have h2 : s.data[i]? = some c := (by rw [← Array.getElem?_toList]; exact h1)
 have h3 : s.data[i]? = some (s.data[i]'h0) := Array.getElem?_eq_getElem h0; rw [h3] at h2; injection h2 with h2
 show ((s.data[i]'h0).toNat : Int) = _
 rw [h2]
theorem nil_drop {s : ByteArray} {i : Nat} (h : s.data.toList.drop i = []) : s.size ≤ i := by
 have := le_of_nil h; rw [Ut.size_data] at this; exact this
theorem ext_list (s : ByteArray) (a b : Nat) : (s.extract a b).data.toList = (s.data.toList.drop a).take (b - a) := by
 rw [ByteArray.data_extract, Array.toList_extract, List.extract_eq_take_drop]
theorem drop_cons_of_lt {s : ByteArray} {i : Nat} (h : i < s.size) : ∃ c r, s.data.toList.drop i = c :: r := by
 cases e : s.data.toList.drop i with
 | nil => have := nil_drop e; omega
 | cons c r => exact ⟨c, r, rfl⟩
def bk (c : UInt8) : Bool := c == 32 || c == 9 || c == 10 || c == 13
def lt (c : UInt8) : Bool := (decide (97 ≤ c.toNat) && decide (c.toNat ≤ 122)) || (decide (65 ≤ c.toNat) && decide (c.toNat ≤ 90)) || c == 95
def dg (c : UInt8) : Bool := decide (48 ≤ c.toNat) && decide (c.toNat ≤ 57)
def ld (c : UInt8) : Bool := lt c || dg c
theorem byte_all {P : UInt8 → Prop} [DecidablePred P] (h : ∀ n : Fin 256, P (UInt8.ofNat n.val)) (c : UInt8) : P c := by
 have := h ⟨c.toNat, UInt8.toNat_lt c⟩
 simpa using this
theorem iblank (c : UInt8) : token_isBlank.f (c.toNat : Int) = some (bk c) := byte_all (P := fun c => token_isBlank.f (c.toNat : Int) = some (bk c)) (by decide +kernel) c
theorem iletter (c : UInt8) : token_isLetter.f (c.toNat : Int) = some (lt c) := byte_all (P := fun c => token_isLetter.f (c.toNat : Int) = some (lt c)) (by decide +kernel) c
theorem idigit (c : UInt8) : token_isDigit.f (c.toNat : Int) = some (dg c) := byte_all (P := fun c => token_isDigit.f (c.toNat : Int) = some (dg c)) (by decide +kernel) c
theorem iletdig (c : UInt8) : token_good.letdig (c.toNat : Int) = some (ld c) := by
 unfold token_good.letdig ld; rw [iletter]
 show (if lt c = true then some true else token_isDigit.f (c.toNat : Int)) = _
 rw [idigit]
 cases lt c <;> rfl
/-- How many bytes at the beginning are of a sort. -/
def rn (p : UInt8 → Bool) : Bs → Nat
 | [] => 0
 | c :: r => if p c = true then rn p r + 1 else 0
theorem rn_le (p : UInt8 → Bool) : ∀ l, rn p l ≤ l.length
 | [] => Nat.le_refl _
 | c :: r => by
  rw [rn]
  split
  ·have := rn_le p r; simp only [List.length_cons]; omega
  ·omega
theorem irun {q : Int → Option Bool} {p : UInt8 → Bool} (h : ∀ c : UInt8, q (c.toNat : Int) = some (p c)) : ∀ l : Bs, token_good.run q l = some (rn p l)
 | [] => rfl
 | c :: r => by
  rw [token_good.run, h c, rn]
  show (if p c = true then (token_good.run q r).map (· + 1) else some 0) = _
  split
  ·rw [irun h r]; rfl
  ·rfl
def nl (c : UInt8) : Bool := c != 10
theorem index_rn (l : Bs) : (Lib.indexByte l 10 = -1 ∧ rn nl l = l.length) ∨ Lib.indexByte l 10 = (rn nl l : Int) := by
 induction l with
 | nil => exact .inl ⟨rfl, rfl⟩
 | cons c r ih =>
  rw [Lib.indexByte, rn]; by_cases hc : c = 10
  ·subst hc
   right
   simp [nl]
  ·have h1 : (c == 10) = false := beq_eq_false_iff_ne.2 hc
   have h2 : nl c = true := (by simp [nl, hc])
   rw [if_neg (by rw [h1]; decide), if_pos h2]
   rcases ih with ⟨e1, e2⟩ | e
   ·rw [e1]
    left
    exact ⟨by simp, by simp [e2]⟩
   ·right
    rw [e]; have : ((rn nl r : Int) == -1) = false := beq_eq_false_iff_ne.2 (by omega); rw [this]
    simp
theorem iline (s : ByteArray) : token_line.f s = some (rn nl s.data.toList : Int) := by
 unfold token_line.f strings_IndexByte.f
 show (if Lib.indexByte s.data.toList 10 ≥ 0 then _ else _) = _
 rcases index_rn s.data.toList with ⟨e1, e2⟩ | e
 ·rw [e1, if_neg (by decide), e2, Ut.size_data]
 ·have e' : Lib.indexByte s.data.toList (Int.toNat 10).toUInt8 = (rn nl s.data.toList : Int) := e; rw [e, if_pos (by omega), e']
/-! ### words and signs -/
def ws : List Bs := [[100, 101, 102], [101, 108, 115, 101], [102, 97, 108, 115, 101], [102, 110], [105, 102], [105, 109, 112, 111, 114, 116], [105, 110], [108, 101, 116], [109, 97, 116, 99, 104], [116, 104, 101, 110], [116, 114, 117, 101], [116, 121, 112, 101]]
def sg : List Bs := [[33], [38, 38], [40], [41], [42], [43], [44], [45], [45, 62], [46], [58], [59], [60], [61], [61, 61], [61, 62], [91], [93], [123], [124], [124, 124], [125]]
def chain (x : Bs) : List Bs → Option Bool
 | [] => some false
 | y :: r => if x = y then some true else chain x r
theorem chain_eq (x : Bs) : ∀ l, chain x l = some (decide (x ∈ l))
 | [] => by simp [chain]
 | y :: r => by
  rw [chain, chain_eq x r]; by_cases h : x = y
  ·simp [h]
  ·simp [h]
theorem iword (s : ByteArray) : token_isWord.f s = some (decide (s.data.toList ∈ ws)) := by
 rw [← chain_eq, ← Lib.toList_data]; rfl
theorem isign (s : ByteArray) : token_isSign.f s = some (decide (s.data.toList ∈ sg)) := by
 rw [← chain_eq, ← Lib.toList_data]; rfl
/-- The bytes of the sign at the beginning. -/
def sn (l : Bs) : Nat := if 2 ≤ l.length ∧ l.take 2 ∈ sg then 2 else if l.take 1 ∈ sg then 1 else 0
theorem isn (s : ByteArray) (h0 : 0 < s.size) (hz : s.size ≤ 1000000000) : Ev (fun k => token_sign.f k s) (sn s.data.toList : Int) := by
 have hl := Ut.size_data s; have e2 : (s.extract 0 2).data.toList = s.data.toList.take 2 := ext_list s 0 2; have e1 : (s.extract 0 1).data.toList = s.data.toList.take 1 := ext_list s 0 1
 have one : Ev (fun k => token_sign.l0 k s 1) ((if s.data.toList.take 1 ∈ sg then 1 else 0 : Nat) : Int) := by
  refine Ev.shift ?_; simp only [token_sign.l0]; refine Ev.pos (by decide) (Ev.pos (by decide) (Ev.pos (by omega) ?_)); refine Ev.bind1 (isign _) ?_; rw [show ((1 : Int)).toNat = 1 from rfl, e1]; by_cases h : s.data.toList.take 1 ∈ sg
  ·rw [if_pos h]; exact Ev.pos (decide_eq_true h) (Ev.now _)
  ·rw [if_neg h]; refine Ev.neg (by rw [decide_eq_false h]; decide) (Ev.shift ?_); simp only [token_sign.l0]; rw [w64 (n := (1 : Int) - 1) (by omega) (by omega)]; exact Ev.neg (by decide) (Ev.now _)
 unfold token_sign.f sn; by_cases h2 : 2 ≤ s.size
 ·rw [show mn 2 (s.size : Int) = 2 by unfold mn; split <;> omega]; refine Ev.shift ?_; simp only [token_sign.l0]; refine Ev.pos (by decide) (Ev.pos (by decide) (Ev.pos (by omega) ?_)); refine Ev.bind1 (isign _) ?_; rw [show ((2 : Int)).toNat = 2 from rfl, e2]; by_cases h : s.data.toList.take 2 ∈ sg
  ·rw [if_pos ⟨by omega, h⟩]; exact Ev.pos (decide_eq_true h) (Ev.now _)
  ·rw [if_neg (fun x => h x.2)]; rw [w64 (n := (2 : Int) - 1) (by omega) (by omega)]; exact Ev.neg (by rw [decide_eq_false h]; decide) one
 ·rw [show mn 2 (s.size : Int) = 1 by unfold mn; split <;> omega, if_neg (fun x => by omega)]; exact one
/-! ### quotes -/
/-- The bytes up to the closing quote. -/
def qt : Bs → Option Nat
 | [] => none
 | c :: r => if c = 34 then some 1 else if c = 10 then none else if c = 92 then (match r with | [] => none | d :: r' => if d = 110 ∨ d = 34 ∨ d = 92 then (qt r').map (· + 2) else none) else (qt r).map (· + 1)
def qe (i : Nat) : Option Nat → Int
 | none => 0
 | some n => ((i + n : Nat) : Int)
theorem qe_map (i j : Nat) (x : Option Nat) : qe i (x.map (· + j)) = qe (i + j) x := by
 cases x with
 | none => rfl
 | some n => show ((i + (n + j) : Nat) : Int) = ((i + j + n : Nat) : Int); omega
theorem qt_pos : ∀ (m : Nat) (l : Bs), l.length ≤ m → ∀ n, qt l = some n → 0 < n ∧ n ≤ l.length := by
 intro m
 induction m with
 | zero =>
  intro l hl n h; obtain rfl : l = [] := List.eq_nil_of_length_eq_zero (by omega)
  simp [qt] at h
 | succ m ih =>
  intro l hl n h
  cases l with
  | nil => simp [qt] at h
  | cons c r =>
   rw [qt.eq_def] at h; simp only at h; simp only [List.length_cons] at hl ⊢
   split at h
   ·injection h with h; omega
   ·split at h
    ·cases h
    ·split at h
     ·cases r with
      | nil => cases h
      | cons d r' =>
       simp only at h
       split at h
       ·cases e : qt r' with
        | none => rw [e] at h; cases h
        | some x =>
         rw [e, Option.map_some] at h; injection h with h; have h : x + 2 = n := h; have := ih r' (by simp only [List.length_cons] at hl; omega) x e; simp only [List.length_cons]
         omega
       ·cases h
     ·cases e : qt r with
      | none => rw [e] at h; cases h
      | some x =>
       rw [e, Option.map_some] at h; injection h with h; have h : x + 1 = n := h; have := ih r (by omega) x e
       omega
theorem byte_int (c : UInt8) (n : Nat) (hn : n < 256) : ((c.toNat : Int) = (n : Int)) ↔ c = UInt8.ofNat n := by
 constructor
 ·intro h
  have h : c.toNat = n := (by exact_mod_cast h)
  rw [← h]
  simp
 ·intro h; rw [h, UInt8.toNat_ofNat_of_lt' hn]
theorem esc (c : UInt8) : Lib.indexByte [110, 34, 92] ((c.toNat : Int)).toNat.toUInt8 < 0 ↔ ¬ (c = 110 ∨ c = 34 ∨ c = 92) :=
 byte_all (P := fun c => Lib.indexByte [110, 34, 92] ((c.toNat : Int)).toNat.toUInt8 < 0 ↔ ¬ (c = 110 ∨ c = 34 ∨ c = 92)) (by decide +kernel) c
theorem iqt (s : ByteArray) (hz : s.size ≤ 1000000000) : ∀ (m : Nat) (l : Bs) (i : Nat), l.length ≤ m → s.data.toList.drop i = l → Ev (fun k => token_quoted.l0 k s (i : Int)) (qe i (qt l)) := by
 intro m
 induction m with
 | zero =>
  intro l i hl h; obtain rfl : l = [] := List.eq_nil_of_length_eq_zero (by omega); have := nil_drop h; refine Ev.shift ?_; simp only [token_quoted.l0, qt, qe]; exact Ev.neg (by omega) (Ev.now _)
 | succ m ih =>
  intro l i hl h
  cases l with
  | nil =>
   have := nil_drop h; refine Ev.shift ?_; simp only [token_quoted.l0, qt, qe]; exact Ev.neg (by omega) (Ev.now _)
  | cons c r =>
   obtain ⟨hlt, hb⟩ := bt_drop h; simp only [List.length_cons] at hl; refine Ev.shift ?_; simp only [token_quoted.l0]; rw [hb, w64 (n := (i : Int) + 1) (by omega) (by omega), w64 (n := (i : Int) + 1 + 1) (by omega) (by omega)]; refine Ev.pos (by omega) (Ev.pos (by omega) ?_); rw [qt.eq_def]; simp only; by_cases h1 : c = 34
   ·rw [if_pos h1]; exact Ev.pos ((byte_int c 34 (by decide)).2 h1) (Ev.now _)
   ·rw [if_neg h1]; refine Ev.neg (fun x => h1 ((byte_int c 34 (by decide)).1 x)) ?_; by_cases h2 : c = 10
    ·rw [if_pos h2]; exact Ev.pos ((byte_int c 10 (by decide)).2 h2) (Ev.now _)
    ·rw [if_neg h2]; refine Ev.neg (fun x => h2 ((byte_int c 10 (by decide)).1 x)) ?_; by_cases h3 : c = 92
     ·rw [if_pos h3]; refine Ev.pos ((byte_int c 92 (by decide)).2 h3) ?_; have hr := drop_next h
      cases r with
      | nil =>
       have := nil_drop hr; exact Ev.pos (by omega) (Ev.now _)
      | cons d r' =>
       obtain ⟨hlt', hb'⟩ := bt_drop hr; have hb' : bt s ((i : Int) + 1) = (d.toNat : Int) := hb'; rw [hb']; refine Ev.neg (by omega) (Ev.pos (by omega) (Ev.pos (by omega) ?_)); refine Ev.bind1 rfl ?_; simp only; by_cases h4 : d = 110 ∨ d = 34 ∨ d = 92
       ·rw [if_pos h4, qe_map]; refine Ev.neg (fun x => (esc d).1 x h4) ?_; have := ih r' (i + 2) (by simp at hl; omega) (drop_next hr); rw [show (i : Int) + 1 + 1 = ((i + 2 : Nat) : Int) by omega]; exact this
       ·rw [if_neg h4]; exact Ev.pos ((esc d).2 h4) (Ev.now _)
     ·rw [if_neg h3, qe_map]; refine Ev.neg (fun x => h3 ((byte_int c 92 (by decide)).1 x)) ?_
      exact_mod_cast ih r (i + 1) (by omega) (drop_next h)
end Go.Proofs.Ytnafnieocpkkhaa.P

set_option linter.unusedVariables false
set_option linter.unusedSimpArgs false
namespace Go.Proofs.Ytnafnieocpkkhaa.P
open Go.RowKit Go.Proofs.YtnafnieocpkkhaaW.PrintWords Go.Proofs.YtnafnieocpkkhaaW.PrintLast Go.Proofs.YtnafnieocpkkhaaW.PrintMore
def qn : Option Nat → Nat
 | none => 0
 | some n => n + 1
theorem qe_qn (x : Option Nat) : qe 1 x = (qn x : Int) := by
 cases x with
 | none => rfl
 | some n => show ((1 + n : Nat) : Int) = ((n + 1 : Nat) : Int); omega
theorem qn_le (r : Bs) : qn (qt r) ≤ r.length + 1 := by
 cases e : qt r with
 | none => exact Nat.zero_le _
 | some n => have := qt_pos r.length r (Nat.le_refl _) n e; show n + 1 ≤ _; omega
/-- The token at the beginning that is not bad: its kind and its bytes; no bytes: there is none. -/
def gd : Bs → Int × Nat
 | [] => (0, 0)
 | c :: r =>
  if bk c = true then (1, rn bk (c :: r)) else
  if (c :: r).take 2 = [47, 47] then (2, rn nl (c :: r)) else
  if lt c = true then (if (c :: r).take (rn ld (c :: r)) ∈ ws then 4 else 3, rn ld (c :: r)) else
  if dg c = true then (5, rn dg (c :: r)) else
  if c = 34 then (6, qn (qt r)) else (7, sn (c :: r))
theorem gd_cons (c : UInt8) (r : Bs) : gd (c :: r) =
  if bk c = true then (1, rn bk (c :: r)) else
  if (c :: r).take 2 = [47, 47] then (2, rn nl (c :: r)) else
  if lt c = true then (if (c :: r).take (rn ld (c :: r)) ∈ ws then 4 else 3, rn ld (c :: r)) else
  if dg c = true then (5, rn dg (c :: r)) else
  if c = 34 then (6, qn (qt r)) else (7, sn (c :: r)) := rfl
theorem sn_le (c : UInt8) (r : Bs) : sn (c :: r) ≤ (c :: r).length := by
 unfold sn
 split
 ·rename_i h; exact h.1
 ·split <;> simp
theorem gd_le (l : Bs) : (gd l).2 ≤ l.length := by
 cases l with
 | nil => exact Nat.le_refl _
 | cons c r =>
  rw [gd_cons]
  (repeat' split) <;> first | exact rn_le _ _ | exact qn_le r | exact sn_le c r
theorem isize (s : ByteArray) : s.data.toList.length = s.size := Ut.size_data s
theorem fin_eq (s : ByteArray) (kind : Int) (n : Nat) (h : n ≤ s.size) : token_good.fin s kind (n : Int) = some (kind, s.extract 0 n, decide (0 < n)) := by
 unfold token_good.fin; rw [if_pos (by omega), if_pos (by omega), Int.toNat_natCast]
 congr 3
 exact decide_eq_decide.2 (by omega)
theorem remark_eq (s : ByteArray) : strings_HasPrefix.f s ⟨#[47, 47]⟩ = some (decide (s.data.toList.take 2 = [47, 47])) := by
 have e2 : (s.extract 0 2).data.toList = s.data.toList.take 2 := ext_list s 0 2; have hl := isize s; unfold strings_HasPrefix.f stringslite_HasPrefix.f; have h2 : (((⟨#[47, 47]⟩ : ByteArray).size : Nat) : Int) = 2 := rfl; rw [h2]; by_cases h : (s.size : Int) ≥ 2
 ·rw [if_pos h, if_pos (by decide), if_pos (by omega)]
  show some _ = _
  rw [show ((2 : Int)).toNat = 2 from rfl, Lib.toList_data, e2, Lib.toList_data]
  congr 1
  exact Bool.eq_iff_iff.2 (by rw [beq_iff_eq, decide_eq_true_eq])
 ·rw [if_neg h]
  show some false = _
  congr 1
  symm
  apply decide_eq_false
  intro e; have := congrArg List.length e; rw [List.length_take] at this; simp only [List.length_cons, List.length_nil] at this
  omega
theorem good_ev (s : ByteArray) (c : UInt8) (r : Bs) (hs : s.data.toList = c :: r) (hz : s.size ≤ 1000000000) : Ev (fun k => token_good.f k s) ((gd (c :: r)).1, s.extract 0 (gd (c :: r)).2, decide (0 < (gd (c :: r)).2)) := by
 have hb : 0 < s.size ∧ bt s 0 = (c.toNat : Int) := bt_drop (i := 0) hs; have hl := isize s; have hg := gd_le (c :: r); rw [← hs, hl, hs] at hg; unfold token_good.f; refine Ev.pos (by omega) (Ev.pos hb.1 ?_); rw [hb.2]; refine Ev.bind1 (iblank c) ?_; unfold gd at hg ⊢; by_cases h1 : bk c = true
 ·simp only [if_pos h1] at hg ⊢; rw [irun iblank, hs]; exact Ev.congr (fun _ => fin_eq s 1 _ hg) (Ev.now _)
 ·simp only [if_neg h1] at hg ⊢; refine Ev.bind1 (remark_eq s) ?_; rw [hs]; by_cases h2 : (c :: r).take 2 = [47, 47]
  ·simp only [if_pos h2] at hg ⊢; refine Ev.pos (decide_eq_true h2) (Ev.bind1 (iline s) ?_); rw [hs]; exact Ev.congr (fun _ => fin_eq s 2 _ hg) (Ev.now _)
  ·simp only [if_neg h2] at hg ⊢; refine Ev.neg (by rw [decide_eq_false h2]; decide) (Ev.bind1 (iletter c) ?_); by_cases h3 : lt c = true
   ·simp only [if_pos h3] at hg ⊢; rw [irun iletdig]; refine Ev.pos hg (Ev.bind1 (iword _) ?_); rw [show (s.extract 0 (rn ld (c :: r))).data.toList = (c :: r).take (rn ld (c :: r)) by rw [← hs]; exact ext_list s 0 _]; by_cases h4 : (c :: r).take (rn ld (c :: r)) ∈ ws
    ·simp only [if_pos h4, decide_eq_true h4, if_true]; exact Ev.congr (fun _ => fin_eq s 4 _ hg) (Ev.now _)
    ·simp only [if_neg h4, decide_eq_false h4]; exact Ev.congr (fun _ => fin_eq s 3 _ hg) (Ev.now _)
   ·simp only [if_neg h3] at hg ⊢; refine Ev.bind1 (idigit c) ?_; by_cases h4 : dg c = true
    ·simp only [if_pos h4] at hg ⊢; rw [irun idigit]; exact Ev.congr (fun _ => fin_eq s 5 _ hg) (Ev.now _)
    ·simp only [if_neg h4] at hg ⊢; by_cases h5 : c = 34
     ·simp only [if_pos h5] at hg ⊢; refine Ev.pos ((byte_int c 34 (by decide)).2 h5) ?_
      have hq : Ev (fun k => token_quoted.f k s) (qn (qt r) : Int) := by
       rw [← qe_qn]
       have hd : s.data.toList.drop 1 = r := (by rw [hs]; rfl)
       exact iqt s hz r.length r 1 (Nat.le_refl _) hd
      exact Ev.bind hq (Ev.congr (fun _ => fin_eq s 6 _ hg) (Ev.now _))
     ·simp only [if_neg h5] at hg ⊢; refine Ev.neg (fun x => h5 ((byte_int c 34 (by decide)).1 x)) ?_; have hq := isn s hb.1 hz; rw [hs] at hq; exact Ev.bind hq (Ev.congr (fun _ => fin_eq s 7 _ hg) (Ev.now _))
/-- How many bytes a bad token goes on. -/
def sk : Bs → Nat
 | [] => 0
 | c :: r => if c = 34 ∨ 0 < (gd (c :: r)).2 then 0 else sk r + 1
theorem sk_le : ∀ l : Bs, sk l ≤ l.length
 | [] => Nat.le_refl _
 | c :: r => by
  rw [sk]
  split
  ·omega
  ·have := sk_le r; simp only [List.length_cons]; omega
/-- The token at the beginning. -/
def nx : Bs → Int × Nat
 | [] => (0, 0)
 | c :: r => if 0 < (gd (c :: r)).2 then gd (c :: r) else if c = 34 then (8, rn nl (c :: r)) else (8, sk r + 1)
theorem nx_cons (c : UInt8) (r : Bs) : nx (c :: r) = if 0 < (gd (c :: r)).2 then gd (c :: r) else if c = 34 then (8, rn nl (c :: r)) else (8, sk r + 1) := rfl
theorem nx_pos (c : UInt8) (r : Bs) : 0 < (nx (c :: r)).2 ∧ (nx (c :: r)).2 ≤ (c :: r).length := by
 rw [nx_cons]
 split
 ·rename_i h; exact ⟨h, gd_le _⟩
 ·split
  ·rename_i h
   refine ⟨?_, rn_le _ _⟩; rw [rn, if_pos (by rw [h]; decide)]
   omega
  ·have := sk_le r; exact ⟨Nat.succ_pos _, by simp only [List.length_cons]; omega⟩
theorem ext_suf (s : ByteArray) (i : Nat) : (s.extract i s.size).data.toList = s.data.toList.drop i := by
 rw [ext_list, List.take_of_length_le]; rw [List.length_drop, isize]; exact Nat.le_refl _
theorem next_loop (s : ByteArray) (hz : s.size ≤ 1000000000) : ∀ (r : Bs) (i : Nat), s.data.toList.drop i = r → i ≤ s.size → Ev (fun k => token_next.l0 k s (i : Int)) (8, s.extract 0 (i + sk r)) := by
 intro r
 induction r with
 | nil =>
  intro i h hi; have := nil_drop h; refine Ev.shift ?_; simp only [token_next.l0]; refine Ev.neg (by omega) (Ev.shift ?_); simp only [token_next.j1, sk]; refine Ev.neg (by decide) (Ev.pos (by omega) (Ev.pos (by omega) ?_)); exact Ev.now _
 | cons c r ih =>
  intro i h hi; obtain ⟨hlt, hb⟩ := bt_drop h; refine Ev.shift ?_; simp only [token_next.l0]; refine Ev.pos (by omega) (Ev.pos (by omega) (Ev.shift ?_)); simp only [token_next.j1]; rw [hb, sk]; by_cases h1 : c = 34
  ·subst h1; have e1 : (if (34 : UInt8) = 34 ∨ 0 < (gd (34 :: r)).2 then 0 else sk r + 1) = 0 := if_pos (.inl rfl); rw [e1]; refine Ev.neg (by decide) (Ev.pos (by omega) (Ev.pos (by omega) ?_)); exact Ev.now _
  ·refine Ev.pos (by rw [bne_iff_ne]; exact fun x => h1 ((byte_int c 34 (by decide)).1 x)) (Ev.pos (by omega) (Ev.pos (by omega) ?_))
   have hs : (s.extract i s.size).data.toList = c :: r := (by rw [ext_suf, h])
   have hsz : (s.extract i s.size).size ≤ 1000000000 := (by rw [ByteArray.size_extract]; omega)
   refine Ev.bind (good_ev _ c r hs hsz) ?_; simp only; by_cases h2 : 0 < (gd (c :: r)).2
   ·rw [if_pos (.inr h2)]; refine Ev.pos (decide_eq_true h2) ?_; exact Ev.now _
   ·rw [if_neg (fun x => x.elim h1 h2), w64 (n := (i : Int) + 1) (by omega) (by omega)]; refine Ev.neg (by rw [decide_eq_false h2]; decide) ?_; have := ih (i + 1) (drop_next h) (by omega); rw [show i + 1 + sk r = i + (sk r + 1) by omega] at this
    exact_mod_cast this
theorem next_ev (s : ByteArray) (c : UInt8) (r : Bs) (hs : s.data.toList = c :: r) (hz : s.size ≤ 1000000000) : Ev (fun k => token_next.f k s) ((nx (c :: r)).1, s.extract 0 (nx (c :: r)).2) := by
 have hb : 0 < s.size ∧ bt s 0 = (c.toNat : Int) := bt_drop (i := 0) hs; have hl := isize s; unfold token_next.f; refine Ev.bind (good_ev s c r hs hz) ?_; simp only; rw [nx_cons]; by_cases h : 0 < (gd (c :: r)).2
 ·rw [if_pos h]; exact Ev.pos (decide_eq_true h) (Ev.now _)
 ·rw [if_neg h, hb.2]; refine Ev.neg (by rw [decide_eq_false h]; decide) (Ev.pos (by omega) ?_); by_cases h5 : c = 34
  ·rw [if_pos h5]; refine Ev.pos ((byte_int c 34 (by decide)).2 h5) (Ev.bind1 (iline s) ?_); have := rn_le nl s.data.toList; rw [hl] at this; rw [← hs]; refine Ev.pos (by omega) (Ev.pos (by omega) ?_); exact Ev.now _
  ·rw [if_neg h5]; refine Ev.neg (fun x => h5 ((byte_int c 34 (by decide)).1 x)) ?_; have := next_loop s hz r 1 (by rw [hs]; rfl) hb.1; rw [Nat.add_comm] at this; exact this
/-- The tokens of a string. -/
def lx : Nat → ByteArray → List S23
 | 0, _ => []
 | m + 1, s => if s.size = 0 then [] else ⟨(nx s.data.toList).1, s.extract 0 (nx s.data.toList).2⟩ :: lx m (s.extract (nx s.data.toList).2 s.size)
theorem lex_ev : ∀ (m : Nat) (s : ByteArray) (acc : List S23), s.size ≤ m → s.size ≤ 1000000000 → acc.length + s.size ≤ 1000000000 → Ev (fun k => token_Lex.l0 k s acc) (acc ++ lx m s, 0) := by
 intro m
 induction m with
 | zero =>
  intro s acc h hz ha; have h0 : s.data.toList = [] := List.eq_nil_of_length_eq_zero (by rw [isize]; omega); refine Ev.shift ?_; simp only [token_Lex.l0]; refine Ev.pos (by rw [Lib.toList_data]; exact h0) ?_; rw [lx, List.append_nil]; exact Ev.now _
 | succ m ih =>
  intro s acc h hz ha; refine Ev.shift ?_; simp only [token_Lex.l0]; by_cases h0 : s.size = 0
  ·have h0' : s.data.toList = [] := List.eq_nil_of_length_eq_zero (by rw [isize]; omega); refine Ev.pos (by rw [Lib.toList_data]; exact h0') ?_; rw [lx, if_pos h0, List.append_nil]; exact Ev.now _
  ·obtain ⟨c, r, hs⟩ := drop_cons_of_lt (s := s) (i := 0) (by omega); have hs : s.data.toList = c :: r := hs; refine Ev.neg (by rw [Lib.toList_data, hs]; exact fun e => by cases e) (Ev.bind (next_ev s c r hs hz) ?_); obtain ⟨n1, n2⟩ := nx_pos c r; rw [← hs] at n1 n2 ⊢; rw [isize] at n2; rw [lx, if_neg h0]
   have hx : (s.extract 0 (nx s.data.toList).2).size = (nx s.data.toList).2 := (by rw [ByteArray.size_extract]; omega)
   have hy : (s.extract (nx s.data.toList).2 s.size).size = s.size - (nx s.data.toList).2 := (by rw [ByteArray.size_extract]; omega)
   simp only [hx]; refine Ev.pos (by omega) (Ev.pos (by omega) (Ev.pos (by omega) ?_)); rw [Int.toNat_natCast]; have := ih (s.extract (nx s.data.toList).2 s.size) (acc ++ [⟨(nx s.data.toList).1, s.extract 0 (nx s.data.toList).2⟩]) (by omega) (by omega) (by rw [List.length_append]; simp only [List.length_cons, List.length_nil]; omega); rw [List.append_assoc] at this; exact this
theorem lx_one (m : Nat) (s : ByteArray) (h0 : 0 < s.size) (hm : s.size ≤ m) : ∃ R, lx m s = ⟨(nx s.data.toList).1, s.extract 0 (nx s.data.toList).2⟩ :: R ∧ (R.length = 0 ↔ (nx s.data.toList).2 = s.size) := by
 obtain ⟨c, r, hs⟩ := drop_cons_of_lt (s := s) (i := 0) (by omega); have hs : s.data.toList = c :: r := hs; obtain ⟨n1, n2⟩ := nx_pos c r; rw [← hs] at n1 n2; rw [isize] at n2
 cases m with
 | zero => omega
 | succ m =>
  rw [lx, if_neg (by omega)]; refine ⟨_, rfl, ?_⟩
  have hy : (s.extract (nx s.data.toList).2 s.size).size = s.size - (nx s.data.toList).2 := (by rw [ByteArray.size_extract]; omega)
  constructor
  ·intro h
   cases m with
   | zero => omega
   | succ m =>
    rw [lx] at h
    split at h
    ·omega
    ·simp at h
  ·intro h
   cases m with
   | zero => rfl
   | succ m =>
    rw [lx, if_pos (by omega)]; rfl
/-- Is a token one? -/
def tok (kind : Int) (s : ByteArray) : Bool := decide (0 < s.size ∧ s.size ≤ 20000 ∧ nx s.data.toList = (kind, s.size))
theorem istoken_ev (kind : Int) (s : ByteArray) (hz : s.size ≤ 1000000000) : Ev (fun k => token_IsToken.f k kind s) (tok kind s) := by
 unfold token_IsToken.f; by_cases h0 : s.size = 0
 ·have h0' : s.data.toList = [] := List.eq_nil_of_length_eq_zero (by rw [isize]; omega); rw [show tok kind s = false from decide_eq_false (fun h => by omega)]; exact Ev.pos (by rw [Lib.toList_data]; exact h0') (Ev.now _)
 ·obtain ⟨c, r, hs⟩ := drop_cons_of_lt (s := s) (i := 0) (by omega); have hs : s.data.toList = c :: r := hs; refine Ev.neg (by rw [Lib.toList_data, hs]; exact fun e => by cases e) ?_
  have hbind : Ev (fun k => token_are.f k [⟨kind, s⟩]) (tok kind s) := by
   unfold token_are.f token_Text.f
   have hj : token_joined.f [⟨kind, s⟩] = some (if s.size ≤ 20000 then (⟨s.data⟩, true) else (⟨#[]⟩, false)) := by
    unfold token_joined.f token_joined.go; rw [if_neg (by simp)]
    show (if (s.size : Int) > 20000 then some (⟨#[]⟩, false) else token_joined.go [] ([] ++ s.data.toList)) = _
    by_cases h : s.size ≤ 20000
    ·rw [if_neg (by omega), if_pos h, token_joined.go]; have e2 : decide (((([] : Bs) ++ s.data.toList).length : Int) ≤ 20000) = true := decide_eq_true (by rw [List.nil_append, isize]; omega); rw [e2, List.nil_append]
    ·rw [if_pos (by omega), if_neg h]
   have hT : Ev (fun k => (token_joined.f [⟨kind, s⟩]).bind fun bt160 => if bt160.2 = true then token_Text.j0 k [⟨kind, s⟩] bt160.1 (decide ((([⟨kind, s⟩] : List S23).length : Int) > 20000)) else token_Text.j0 k [⟨kind, s⟩] bt160.1 true) (if tok kind s = true then (s, 0) else (⟨#[]⟩, if s.size ≤ 20000 then 4 else 3)) := by
    refine Ev.bind1 hj ?_; by_cases h : s.size ≤ 20000
    ·simp only [if_pos h]; have e1 : decide ((([⟨kind, s⟩] : List S23).length : Int) > 20000) = false := decide_eq_false (by simp); rw [e1]; refine Ev.pos trivial (Ev.shift ?_); simp only [token_Text.j0]; refine Ev.neg (by decide) ?_
     have hL : Ev (fun k => token_Lex.f k s) ([] ++ lx s.size s, 0) := by
      unfold token_Lex.f; exact Ev.neg (by omega) (lex_ev s.size s [] (Nat.le_refl _) hz (by simpa using hz))
     obtain ⟨R, hR, hR0⟩ := lx_one s.size s (by omega) (Nat.le_refl _); refine Ev.bind hL ?_; rw [List.nil_append, hR]; simp only
     have hA : Ev (fun k => api_Token.f k (⟨(nx s.data.toList).1, s.extract 0 (nx s.data.toList).2⟩ :: R) [⟨kind, s⟩]) (tok kind s) := by
      unfold api_Token.f; by_cases hn : (nx s.data.toList).2 = s.size
      ·obtain rfl : R = [] := List.eq_nil_of_length_eq_zero (hR0.2 hn); refine Ev.pos rfl (Ev.shift ?_); simp only [api_Token.l0]; refine Ev.pos (by simp) (Ev.pos (by simp) (Ev.pos (by simp) (Ev.pos (by simp) ?_)))
       have hw : (s.extract 0 (nx s.data.toList).2).toList = s.toList := by
        rw [Lib.toList_data, Lib.toList_data, ext_list, hn]; exact List.take_of_length_le (by rw [List.drop_zero, isize]; omega)
       have hx : rd_T23 [⟨(nx s.data.toList).1, s.extract 0 (nx s.data.toList).2⟩] 0 = ⟨(nx s.data.toList).1, s.extract 0 (nx s.data.toList).2⟩ := rfl; have hy : rd_T23 [⟨kind, s⟩] 0 = ⟨kind, s⟩ := rfl; rw [hx, hy]; simp only; rw [hw, beq_self_eq_true]; by_cases hk : (nx s.data.toList).1 = kind
       ·rw [show tok kind s = true from decide_eq_true ⟨by omega, h, Prod.ext hk hn⟩, hk]; refine Ev.neg (by simp) (Ev.shift ?_); simp only [api_Token.l0]; exact Ev.neg (by rw [w64 (n := (0 : Int) + 1) (by omega) (by omega)]; simp) (Ev.now _)
       ·rw [show tok kind s = false from decide_eq_false (fun x => hk (congrArg Prod.fst x.2.2))]; refine Ev.pos ?_ (Ev.now _)
        simp [hk]
      ·rw [show tok kind s = false from decide_eq_false (fun x => hn (congrArg Prod.snd x.2.2))]; refine Ev.neg (fun x => ?_) (Ev.now _); simp only [List.length_cons, List.length_nil] at x; exact hn (hR0.1 (by omega))
     refine Ev.bind hA ?_; by_cases ht : tok kind s = true
     ·rw [ht]; exact Ev.pos rfl (Ev.now _)
     ·rw [Bool.not_eq_true] at ht; rw [ht]; exact Ev.neg (by decide) (Ev.now _)
    ·simp only [if_neg h]; rw [show tok kind s = false from decide_eq_false (fun x => h x.2.1)]; refine Ev.neg (by decide) (Ev.shift ?_); simp only [token_Text.j0, if_true]; exact Ev.now _
   refine Ev.bind hT ?_; by_cases ht : tok kind s = true
   ·rw [ht]; exact Ev.now _
   ·rw [Bool.not_eq_true] at ht; rw [ht]; by_cases h : s.size ≤ 20000
    ·simp only [if_pos h]; exact Ev.now _
    ·simp only [if_neg h]; exact Ev.now _
  exact Ev.bind hbind (Ev.now _)
end Go.Proofs.Ytnafnieocpkkhaa.P

namespace Go.Proofs.Ytnafnieocpkkhaa.P
open Go.RowKit Go.Proofs.YtnafnieocpkkhaaW.PrintWords Go.Proofs.YtnafnieocpkkhaaW.PrintLast Go.Proofs.YtnafnieocpkkhaaW.PrintMore
attribute [local go_sem] max2_int min2_int max_two min_two max_three min_three max_four min_four
set_option linter.unusedVariables false
set_option linter.unusedSimpArgs false

/-- All of a list, one after the other, and the count. -/
def tree_IsFormed.all (g : S26 → Int → Option (Bool × Int)) : List (S26) → Int → Option (Bool × Int)
 | [], c => some (true, c)
 | x :: r, c => (g x c).bind fun b => if b.1 = true then tree_IsFormed.all g r b.2 else some (false, b.2)
/-- Formed, of a Node at a depth: so many levels are left. -/
def tree_IsFormed.go (k : Nat) : Nat → S26 → Int → Option (Bool × Int)
 | 0, _, c => some (false, c)
 | m + 1, n, c =>
  if n.f0 = 1 then
   (if wrap64 (c + 1) ≤ 20000 then (if n.f2.length = 0 then (if (n.f1.f1.size : Int) ≤ 20000 then (token_IsToken.f k n.f1.f0 n.f1.f1).bind fun b => some (b, wrap64 (c + 1)) else some (false, wrap64 (c + 1))) else some (false, wrap64 (c + 1))) else some (false, wrap64 (c + 1)))
  else if n.f0 < 2 then some (false, c) else if n.f0 > 28 then some (false, c) else
   (tree_isEmpty.f n.f1.f0 n.f1.f1).bind fun b => if b = true then (if n.f0 = 28 then (if 0 < n.f2.length then some (false, c) else tree_IsFormed.all (tree_IsFormed.go k m) n.f2 c) else tree_IsFormed.all (tree_IsFormed.go k m) n.f2 c) else some (false, c)
def tree_IsFormed.f (k : Nat) (a0_0 : Int) (a0_1 : Int) (a0_2 : ByteArray) (l0_3 : List (S26)) : Option (Bool) := (tree_IsFormed.go k 1001 ⟨a0_0, ⟨a0_1, a0_2⟩, l0_3⟩ 0).bind fun b => some b.1
/-- What formed says of a Node at a depth, and of the count in block g; all that lay below w0 is as it was. -/
def tree_IsFormed.Holds (k : Nat) (w0 : World) (g m : Nat) : Prop := ∀ (n : S26) (A : Option Addr) (cc : Nat) (d c : Int) (r : Bool × Int) (w : World), d + m = 1001 → 0 ≤ d → n.f2.length ≤ cc → Kd.C k26 w0 A n.f2.length n.f2 → Below w0.heap.size w0 w → w.heap[g]? = some (.cells #[.int .i64 c] 3 (0, 0)) → tree_IsFormed.go k m n c = some r →
 Calls Try.prog 65 #[.agg #[.int .i64 n.f0, .int .i64 n.f1.f0, .string n.f1.f1, .slice A n.f2.length cc], .int .i64 d, .pointer (some ⟨g, 0, none⟩)] w fun e w' => e = .returned (.bool r.1) ∧ w'.heap[g]? = some (.cells #[.int .i64 r.2] 3 (0, 0)) ∧ Below w0.heap.size w0 w' ∧ KeepBut w w' g none
set_option maxHeartbeats 8000000 in
set_option maxRecDepth 100000 in
theorem tree_IsFormed.closure_ok (k : Nat) (w0 : World) (g m : Nat) (IH : tree_IsFormed.Holds k w0 g m) (n : S26) (A : Option Addr) (cc : Nat) (d c : Int) (r : Bool × Int) (w : World) (b4 b5 : Nat) (f4 f5 : Nat × Nat)
  (hd : d + (m + 1 : Nat) = 1001) (hd0 : 0 ≤ d) (hcc : n.f2.length ≤ cc) (hC : Kd.C k26 w0 A n.f2.length n.f2) (hB : Below w0.heap.size w0 w) (hG : w.heap[g]? = some (.cells #[.int .i64 c] 3 (0, 0)))
  (h4 : w.heap[b4]? = some (.cells #[.int .i64 d] 3 f4)) (h5 : w.heap[b5]? = some (.cells #[.pointer (some ⟨g, 0, none⟩)] 95 f5)) (h : tree_IsFormed.go k m n c = some r) :
  Calls Try.prog 87 #[.agg #[.int .i64 n.f0, .int .i64 n.f1.f0, .string n.f1.f1, .slice A n.f2.length cc], .pointer (some ⟨b4, 0, none⟩), .pointer (some ⟨b5, 0, none⟩)] w fun e w' => e = .returned (.bool (!r.1)) ∧ w'.heap[g]? = some (.cells #[.int .i64 r.2] 3 (0, 0)) ∧ Below w0.heap.size w0 w' ∧ KeepBut w w' g none := by
 have hu := Try.underlying26
 have c4 : w.cell? ⟨b4, 0, none⟩ = some (.int .i64 d) := (by rw [Lib.cell_of_heap h4]; rfl)
 have c5 : w.cell? ⟨b5, 0, none⟩ = some (.pointer (some ⟨g, 0, none⟩)) := (by rw [Lib.cell_of_heap h5]; rfl)
 have l4 := World.block_lt_of_cell? w _ c4; have l5 := World.block_lt_of_cell? w _ c5; have hA := below_alloc (Below.refl w.heap.size w) (.cells #[.int .i64 n.f0, .int .i64 n.f1.f0, .string n.f1.f1, .slice A n.f2.length cc] 26); have e4 := (hA.cell l4).trans c4; have e5 := (hA.cell l5).trans c5; have HA := Aside0.mk hA; have HI := Aside0.mk (IH n A cc (d + 1) c r (w.alloc (.cells #[.int .i64 n.f0, .int .i64 n.f1.f0, .string n.f1.f1, .slice A n.f2.length cc] 26)) (by omega) (by omega) hcc hC (below_alloc hB _) (blk_alloc hG _) h); clear hA c4 c5 h4 h5 IH hC hB hG h; go_enter Try.func87, Try.ntmps87
 go_wp2_with (go_at_call 65; refine HI.out.mono ?_; rintro e w1 ⟨rfl, h1, h2, h3⟩; have H1 := Aside0.mk h1; have H2 := Aside0.mk h2; have H3 := Aside0.mk h3; clear h1 h2 h3)
 go_ret; exact ⟨rfl, H1.out, H2.out, KeepBut.trans (KeepBut.of_below HA.out g none) H3.out (.inl rfl)⟩
theorem tree_IsFormed.keep_blk {w w' : World} {g b : Nat} {o : Obj} (h : KeepBut w w' g none) (hb : w.heap[b]? = some o) (hne : b ≠ g) : w'.heap[b]? = some o := (h.2 b (blk_lt hb) hne (by simp)).trans hb
set_option maxHeartbeats 8000000 in
set_option maxRecDepth 100000 in
theorem tree_IsFormed.index_ok (k : Nat) (w0 : World) (g m : Nat) (IH : tree_IsFormed.Holds k w0 g m) (l : List (S26)) (A : Option Addr) (cc : Nat) (d c : Int) (r : Bool × Int) (w : World) (b4 b5 : Nat) (f4 f5 : Nat × Nat)
  (hd : d + (m + 1 : Nat) = 1001) (hd0 : 0 ≤ d) (hcc : l.length ≤ cc) (hC : Kd.C k26 w0 A l.length l) (hB : Below w0.heap.size w0 w) (hG : w.heap[g]? = some (.cells #[.int .i64 c] 3 (0, 0)))
  (h4 : w.heap[b4]? = some (.cells #[.int .i64 d] 3 f4)) (h5 : w.heap[b5]? = some (.cells #[.pointer (some ⟨g, 0, none⟩)] 95 f5)) (n4 : b4 ≠ g) (n5 : b5 ≠ g) (h : tree_IsFormed.all (tree_IsFormed.go k m) l c = some r) :
  Calls Try.prog 89 #[.slice A l.length cc, .func (.func 87) #[] #[.pointer (some ⟨b4, 0, none⟩), .pointer (some ⟨b5, 0, none⟩)]] w fun e w' => ∃ v : Int, e = .returned (.int .i64 v) ∧ decide (0 ≤ v) = !r.1 ∧ w'.heap[g]? = some (.cells #[.int .i64 r.2] 3 (0, 0)) ∧ Below w0.heap.size w0 w' ∧ KeepBut w w' g none := by
 have hu := Try.underlying26; have HIH := Aside0.mk IH; have HC := Aside0.mk hC; have H4 := Aside0.mk h4; have H5 := Aside0.mk h5; have N4 := Aside0.mk n4; have N5 := Aside0.mk n5; have HD := Aside0.mk (And.intro hd hd0); have HH := Aside0.mk h; have HB := Aside0.mk hB; have HG := Aside0.mk hG; have hmax : l.length ≤ 9223372036854775807 := hC.2.1; clear IH hC h4 h5 n4 n5 hd hd0 h hB hG; go_enter Try.func89, Try.ntmps89; go_wp2_with fail
 go_loopg [8] l.length (fun kq v8 w' => ∃ (i : Nat) (ci : Int), v8 = .int .i64 (i : Int) ∧ Aside0 (i + kq = l.length) ∧ Aside0 (tree_IsFormed.all (tree_IsFormed.go k m) (l.drop i) ci = some r) ∧ Aside0 (w'.heap[g]? = some (.cells #[.int .i64 ci] 3 (0, 0))) ∧ Aside0 (Below w0.heap.size w0 w') ∧ Aside0 (KeepBut w w' g none))
 case atStart => exact ⟨0, c, rfl, ⟨by omega⟩, HH, HG, HB, ⟨KeepBut.refl _ _ _⟩⟩
 case round =>
  clear HH HG HB; obtain ⟨i, ci, rfl, HK, HH, HG, HB, HKB⟩ := hrel; by_cases hlt : i < l.length
  ·have hd1 : decide ((i : Int) < (l.length : Int)) = true := decide_eq_true (by omega); have H := HH.out; rw [List.drop_eq_getElem_cons hlt] at H; simp only [tree_IsFormed.all] at H; obtain ⟨b, hb, H⟩ := Option.bind_eq_some_iff.mp H
   have hrd : rd_T26 l (i : Int) = l[i] := (by simp [rd_T26, hlt])
   obtain ⟨ad, A3, c3, e, hx0, hx1, hx2, hx3, hl3, hC3⟩ := at_T26 HC.out (i : Int) (by omega) (by omega); rw [hrd] at hx0 hx1 hx2 hx3 hl3 hC3; rw [Int.toNat_natCast] at hx0 hx1 hx2 hx3
   cases e
   replace hx0 := (HB.out.cell (World.block_lt_of_cell? w0 _ hx0)).trans hx0; replace hx1 := (HB.out.cell (World.block_lt_of_cell? w0 _ hx1)).trans hx1; replace hx2 := (HB.out.cell (World.block_lt_of_cell? w0 _ hx2)).trans hx2; replace hx3 := (HB.out.cell (World.block_lt_of_cell? w0 _ hx3)).trans hx3; clear hrd HH; generalize l[i] = x at *; have hcall := tree_IsFormed.closure_ok k w0 g m HIH.out x A3 c3 d ci b wr b4 b5 f4 f5 HD.out.1 HD.out.2 hl3 hC3 HB.out HG.out (tree_IsFormed.keep_blk HKB.out H4.out N4.out) (tree_IsFormed.keep_blk HKB.out H5.out N5.out) hb; have HCall := Aside0.mk hcall; obtain ⟨b1, b2⟩ := b; clear hcall hb hl3 hC3
   cases b1 with
   | true =>
    rw [if_pos rfl] at H; have HH2 := Aside0.mk H; clear H
    cases gk with
    | zero => exact absurd hlt (by have := HK.out; omega)
    | succ kq' =>
    go_wp2_with (go_at_call 87; refine HCall.out.mono ?_; rintro e w1 ⟨rfl, h1, h2, h3⟩; have H1 := Aside0.mk h1; have H2 := Aside0.mk h2; have H3 := Aside0.mk (KeepBut.trans HKB.out h3 (.inl rfl)); clear h1 h2 h3)
    go_roundg kq'
    case measure => omega
    case rel => exact ⟨i + 1, b2, by go_num, ⟨by have := HK.out; omega⟩, HH2, H1, H2, H3⟩
   | false =>
    rw [if_neg (show ¬ (false = true) by decide)] at H; simp only [Option.some.injEq] at H; subst H
    go_wp2_with (go_at_call 87; refine HCall.out.mono ?_; rintro e w1 ⟨rfl, h1, h2, h3⟩; have H1 := Aside0.mk h1; have H2 := Aside0.mk h2; have H3 := Aside0.mk (KeepBut.trans HKB.out h3 (.inl rfl)); clear h1 h2 h3)
    go_ret; exact ⟨_, rfl, by simp, H1.out, H2.out, H3.out⟩
  ·have hd1 : decide ((i : Int) < (l.length : Int)) = false := decide_eq_false (by omega); have H := HH.out; rw [List.drop_of_length_le (by have := HK.out; omega)] at H; simp only [tree_IsFormed.all, Option.some.injEq] at H; subst H; go_wp2_with fail; go_ret; exact ⟨_, rfl, by simp, HG.out, HB.out, HKB.out⟩
set_option maxHeartbeats 8000000 in
set_option maxRecDepth 100000 in
theorem tree_IsFormed.contains_ok (k : Nat) (w0 : World) (g m : Nat) (IH : tree_IsFormed.Holds k w0 g m) (l : List (S26)) (A : Option Addr) (cc : Nat) (d c : Int) (r : Bool × Int) (w : World) (b4 b5 : Nat) (f4 f5 : Nat × Nat)
  (hd : d + (m + 1 : Nat) = 1001) (hd0 : 0 ≤ d) (hcc : l.length ≤ cc) (hC : Kd.C k26 w0 A l.length l) (hB : Below w0.heap.size w0 w) (hG : w.heap[g]? = some (.cells #[.int .i64 c] 3 (0, 0)))
  (h4 : w.heap[b4]? = some (.cells #[.int .i64 d] 3 f4)) (h5 : w.heap[b5]? = some (.cells #[.pointer (some ⟨g, 0, none⟩)] 95 f5)) (n4 : b4 ≠ g) (n5 : b5 ≠ g) (h : tree_IsFormed.all (tree_IsFormed.go k m) l c = some r) :
  Calls Try.prog 71 #[.slice A l.length cc, .func (.func 87) #[] #[.pointer (some ⟨b4, 0, none⟩), .pointer (some ⟨b5, 0, none⟩)]] w fun e w' => e = .returned (.bool (!r.1)) ∧ w'.heap[g]? = some (.cells #[.int .i64 r.2] 3 (0, 0)) ∧ Below w0.heap.size w0 w' ∧ KeepBut w w' g none := by
 have HI := Aside0.mk (tree_IsFormed.index_ok k w0 g m IH l A cc d c r w b4 b5 f4 f5 hd hd0 hcc hC hB hG h4 h5 n4 n5 h); clear IH hd hd0 hC hB hG h4 h5 n4 n5 h; go_enter Try.func71, Try.ntmps71
 go_wp2_with (go_at_call 89; refine HI.out.mono ?_; rintro e w1 ⟨v, rfl, hv, h1, h2, h3⟩; have H1 := Aside0.mk h1; have H2 := Aside0.mk h2; have H3 := Aside0.mk h3; have HV := Aside0.mk hv; clear h1 h2 h3 hv)
 go_ret; exact ⟨by rw [← HV.out]; rfl, H1.out, H2.out, H3.out⟩
set_option maxHeartbeats 8000000 in
set_option maxRecDepth 100000 in
theorem tree_IsFormed.formed_ok (k : Nat) (w0 : World) (g : Nat) (hg : w0.heap.size ≤ g) : ∀ m, tree_IsFormed.Holds k w0 g m := by
 have hu := Try.underlying26; have hu2 := Try.underlying23; intro m
 induction m with
 | zero =>
  intro n A cc d c r w hd hd0 hcc hC hB hG h; simp only [tree_IsFormed.go, Option.some.injEq] at h; subst h; have hd1 : decide ((1000 : Int) < d) = true := decide_eq_true (by omega); have HB := Aside0.mk (below_alloc (below_alloc (below_alloc hB (.cells #[.int .i64 n.f0, .int .i64 n.f1.f0, .string n.f1.f1, .slice A n.f2.length cc] 26)) (.cells #[.int .i64 d] 3)) (.cells #[.pointer (some ⟨g, 0, none⟩)] 95)); have HK := Aside0.mk (KeepBut.of_below (below_alloc (below_alloc (below_alloc (Below.refl w.heap.size w) (.cells #[.int .i64 n.f0, .int .i64 n.f1.f0, .string n.f1.f1, .slice A n.f2.length cc] 26)) (.cells #[.int .i64 d] 3)) (.cells #[.pointer (some ⟨g, 0, none⟩)] 95)) g none); have HG := Aside0.mk (blk_alloc (blk_alloc (blk_alloc hG (.cells #[.int .i64 n.f0, .int .i64 n.f1.f0, .string n.f1.f1, .slice A n.f2.length cc] 26)) (.cells #[.int .i64 d] 3)) (.cells #[.pointer (some ⟨g, 0, none⟩)] 95)); clear hd hB hG hC; go_enter Try.func65, Try.ntmps65; go_wp2; go_ret; exact ⟨rfl, HG.out, HB.out, HK.out⟩
 | succ m ih =>
  intro n A cc d c r w hd hd0 hcc hC hB hG h; have hd1 : decide ((1000 : Int) < d) = false := decide_eq_false (by omega); have HB := Aside0.mk (below_alloc (below_alloc (below_alloc hB (.cells #[.int .i64 n.f0, .int .i64 n.f1.f0, .string n.f1.f1, .slice A n.f2.length cc] 26)) (.cells #[.int .i64 d] 3)) (.cells #[.pointer (some ⟨g, 0, none⟩)] 95)); have HK := Aside0.mk (KeepBut.of_below (below_alloc (below_alloc (below_alloc (Below.refl w.heap.size w) (.cells #[.int .i64 n.f0, .int .i64 n.f1.f0, .string n.f1.f1, .slice A n.f2.length cc] 26)) (.cells #[.int .i64 d] 3)) (.cells #[.pointer (some ⟨g, 0, none⟩)] 95)) g none); have HG := Aside0.mk (blk_alloc (blk_alloc (blk_alloc hG (.cells #[.int .i64 n.f0, .int .i64 n.f1.f0, .string n.f1.f1, .slice A n.f2.length cc] 26)) (.cells #[.int .i64 d] 3)) (.cells #[.pointer (some ⟨g, 0, none⟩)] 95)); have hgl := blk_lt hG; have HD := Aside0.mk (show d + ((m + 1 : Nat) : Int) = 1001 from hd); have HC := Aside0.mk hC; have IH := Aside0.mk ih; clear hd hB hG hC ih; simp only [tree_IsFormed.go] at h; by_cases c1 : n.f0 = 1
  ·rw [if_pos c1] at h; have c1b : (n.f0 == 1) = true := beq_iff_eq.mpr c1
   have eG : (((w.alloc (.cells #[.int .i64 n.f0, .int .i64 n.f1.f0, .string n.f1.f1, .slice A n.f2.length cc] 26)).alloc (.cells #[.int .i64 d] 3)).alloc (.cells #[.pointer (some ⟨g, 0, none⟩)] 95)).cell? ⟨g, 0, none⟩ = some (.int .i64 c) := (by rw [Lib.cell_of_heap HG.out]; rfl)
   have dG : (((w.alloc (.cells #[.int .i64 n.f0, .int .i64 n.f1.f0, .string n.f1.f1, .slice A n.f2.length cc] 26)).alloc (.cells #[.int .i64 d] 3)).alloc (.cells #[.pointer (some ⟨g, 0, none⟩)] 95)).frozen? ⟨g, 0, none⟩ = false := Lib.frozen_of_heap HG.out 0; have HG2 := Aside0.mk (blk_put (cs' := #[.int .i64 (wrap64 (c + 1))]) HG.out 0 (.int .i64 (wrap64 (c + 1))) rfl); have HB2 := Aside0.mk (HB.out.setCell (p := ⟨g, 0, none⟩) hg (.int .i64 (wrap64 (c + 1)))); have HK2 := Aside0.mk (KeepBut.set_ HK.out 0 (.int .i64 (wrap64 (c + 1)))); have HC0 := Aside0.mk c1; clear c1; by_cases c2 : wrap64 (c + 1) ≤ 20000
   ·rw [if_pos c2] at h; have c2b : decide (wrap64 (c + 1) ≤ 20000) = true := decide_eq_true c2; clear c2; by_cases c3 : n.f2.length = 0
    ·rw [if_pos c3] at h; have c3b : ((n.f2.length : Int) == 0) = true := beq_iff_eq.mpr (by omega); clear c3; by_cases c4 : (n.f1.f1.size : Int) ≤ 20000
     ·rw [if_pos c4] at h; have c4b : decide ((n.f1.f1.size : Int) ≤ 20000) = true := decide_eq_true c4; obtain ⟨b, hb, h⟩ := Option.bind_eq_some_iff.mp h; injection h with h; subst h; have HT := Aside0.mk hb; clear hb c4; go_enter Try.func65, Try.ntmps65
      go_wp2_with (go_at_call 85; refine (token_IsToken.calls k n.f1.f0 n.f1.f1 b _ HT.out).mono ?_; rintro e w1 ⟨rfl, hb⟩; have HG3 := Aside0.mk (blk_below HG2.out hb); have HB3 := Aside0.mk (HB2.out.trans (hb.mono HB2.out.size)); have HK3 := Aside0.mk (KeepBut.trans HK2.out (KeepBut.of_below hb g none) (.inl rfl)); clear hb)
      go_ret; exact ⟨rfl, HG3.out, HB3.out, HK3.out⟩
     ·rw [if_neg c4] at h; have c4b : decide ((n.f1.f1.size : Int) ≤ 20000) = false := decide_eq_false c4; clear c4; injection h with h; subst h; go_enter Try.func65, Try.ntmps65; go_wp2; go_ret; exact ⟨rfl, HG2.out, HB2.out, HK2.out⟩
    ·rw [if_neg c3] at h; have c3b : ((n.f2.length : Int) == 0) = false := beq_eq_false_iff_ne.mpr (by omega); clear c3; injection h with h; subst h; go_enter Try.func65, Try.ntmps65; go_wp2; go_ret; exact ⟨rfl, HG2.out, HB2.out, HK2.out⟩
   ·rw [if_neg c2] at h; injection h with h; subst h; have c2b : decide (wrap64 (c + 1) ≤ 20000) = false := decide_eq_false c2; clear c2; go_enter Try.func65, Try.ntmps65; go_wp2; go_ret; exact ⟨rfl, HG2.out, HB2.out, HK2.out⟩
  ·rw [if_neg c1] at h; have c1b : (n.f0 == 1) = false := beq_eq_false_iff_ne.mpr c1; clear c1; by_cases c2 : n.f0 < 2
   ·rw [if_pos c2] at h; injection h with h; subst h; have c2b : decide (n.f0 < 2) = true := decide_eq_true c2; clear c2; go_enter Try.func65, Try.ntmps65; go_wp2; go_ret; exact ⟨rfl, HG.out, HB.out, HK.out⟩
   ·rw [if_neg c2] at h; have c2b : decide (n.f0 < 2) = false := decide_eq_false c2; clear c2; by_cases c3 : n.f0 > 28
    ·rw [if_pos c3] at h; injection h with h; subst h; have c3b : decide (28 < n.f0) = true := decide_eq_true c3; clear c3; go_enter Try.func65, Try.ntmps65; go_wp2; go_ret; exact ⟨rfl, HG.out, HB.out, HK.out⟩
    ·rw [if_neg c3] at h; have c3b : decide (28 < n.f0) = false := decide_eq_false c3; clear c3; obtain ⟨b, hb, h⟩ := Option.bind_eq_some_iff.mp h; have HE := Aside0.mk hb; have H0 := Aside0.mk (show (((w.alloc (.cells #[.int .i64 n.f0, .int .i64 n.f1.f0, .string n.f1.f1, .slice A n.f2.length cc] 26)).alloc (.cells #[.int .i64 d] 3)).alloc (.cells #[.pointer (some ⟨g, 0, none⟩)] 95)).heap[w.heap.size]? = some (.cells #[.int .i64 n.f0, .int .i64 n.f1.f0, .string n.f1.f1, .slice A n.f2.length cc] 26 (0, 0)) from blk_alloc (blk_alloc (blk_new _ _) _) _); have H4 := Aside0.mk (show (((w.alloc (.cells #[.int .i64 n.f0, .int .i64 n.f1.f0, .string n.f1.f1, .slice A n.f2.length cc] 26)).alloc (.cells #[.int .i64 d] 3)).alloc (.cells #[.pointer (some ⟨g, 0, none⟩)] 95)).heap[w.heap.size + 1]? = some (.cells #[.int .i64 d] 3 (0, 0)) from blk_alloc (by have := blk_new (w.alloc (.cells #[.int .i64 n.f0, .int .i64 n.f1.f0, .string n.f1.f1, .slice A n.f2.length cc] 26)) (.cells #[.int .i64 d] 3); simpa using this) _); have H5 := Aside0.mk (show (((w.alloc (.cells #[.int .i64 n.f0, .int .i64 n.f1.f0, .string n.f1.f1, .slice A n.f2.length cc] 26)).alloc (.cells #[.int .i64 d] 3)).alloc (.cells #[.pointer (some ⟨g, 0, none⟩)] 95)).heap[w.heap.size + 2]? = some (.cells #[.pointer (some ⟨g, 0, none⟩)] 95 (0, 0)) from by have := blk_new ((w.alloc (.cells #[.int .i64 n.f0, .int .i64 n.f1.f0, .string n.f1.f1, .slice A n.f2.length cc] 26)).alloc (.cells #[.int .i64 d] 3)) (.cells #[.pointer (some ⟨g, 0, none⟩)] 95); simpa using this); clear hb
     cases b with
     | false =>
      rw [if_neg (by decide)] at h; injection h with h; subst h; go_enter Try.func65, Try.ntmps65
      go_wp2_with (go_at_call 86; refine (tree_isEmpty.calls n.f1.f0 n.f1.f1 _ _ HE.out).mono ?_; rintro e w1 ⟨rfl, hb⟩; have HG3 := Aside0.mk (blk_below HG.out hb); have HB3 := Aside0.mk (HB.out.trans (hb.mono HB.out.size)); have HK3 := Aside0.mk (KeepBut.trans HK.out (KeepBut.of_below hb g none) (.inl rfl)); have H43 := Aside0.mk (blk_below H4.out hb); have H53 := Aside0.mk (blk_below H5.out hb); have z4 : w1.cell? ⟨w.heap.size, 0, none⟩ = some (.int .i64 n.f0) := Lib.cell_of_heap (blk_below H0.out hb) 0; have z5 : w1.cell? ⟨w.heap.size, 3, none⟩ = some (.slice A n.f2.length cc) := Lib.cell_of_heap (blk_below H0.out hb) 3; clear hb)
      go_ret; exact ⟨rfl, HG3.out, HB3.out, HK3.out⟩
     | true =>
      rw [if_pos rfl] at h; by_cases c4 : n.f0 = 28
      ·rw [if_pos c4] at h; have c4b : (n.f0 == 28) = true := beq_iff_eq.mpr c4; clear c4; by_cases c5 : 0 < n.f2.length
       ·rw [if_pos c5] at h; injection h with h; subst h; have c5b : decide (0 < n.f2.length) = true := decide_eq_true c5; clear c5; go_enter Try.func65, Try.ntmps65
        go_wp2_with (go_at_call 86; refine (tree_isEmpty.calls n.f1.f0 n.f1.f1 _ _ HE.out).mono ?_; rintro e w1 ⟨rfl, hb⟩; have HG3 := Aside0.mk (blk_below HG.out hb); have HB3 := Aside0.mk (HB.out.trans (hb.mono HB.out.size)); have HK3 := Aside0.mk (KeepBut.trans HK.out (KeepBut.of_below hb g none) (.inl rfl)); have H43 := Aside0.mk (blk_below H4.out hb); have H53 := Aside0.mk (blk_below H5.out hb); have z4 : w1.cell? ⟨w.heap.size, 0, none⟩ = some (.int .i64 n.f0) := Lib.cell_of_heap (blk_below H0.out hb) 0; have z5 : w1.cell? ⟨w.heap.size, 3, none⟩ = some (.slice A n.f2.length cc) := Lib.cell_of_heap (blk_below H0.out hb) 3; clear hb)
        go_ret; exact ⟨rfl, HG3.out, HB3.out, HK3.out⟩
       ·rw [if_neg c5] at h; have HL := Aside0.mk h; have c5b : decide (0 < n.f2.length) = false := decide_eq_false c5; clear c5 h; go_enter Try.func65, Try.ntmps65
        go_wp2_with (first | (go_at_call 86; refine (tree_isEmpty.calls n.f1.f0 n.f1.f1 _ _ HE.out).mono ?_; rintro e w1 ⟨rfl, hb⟩; have HG3 := Aside0.mk (blk_below HG.out hb); have HB3 := Aside0.mk (HB.out.trans (hb.mono HB.out.size)); have HK3 := Aside0.mk (KeepBut.trans HK.out (KeepBut.of_below hb g none) (.inl rfl)); have H43 := Aside0.mk (blk_below H4.out hb); have H53 := Aside0.mk (blk_below H5.out hb); have z4 : w1.cell? ⟨w.heap.size, 0, none⟩ = some (.int .i64 n.f0) := Lib.cell_of_heap (blk_below H0.out hb) 0; have z5 : w1.cell? ⟨w.heap.size, 3, none⟩ = some (.slice A n.f2.length cc) := Lib.cell_of_heap (blk_below H0.out hb) 3; clear hb) | (go_at_call 71; refine (tree_IsFormed.contains_ok k w0 g m IH.out n.f2 A cc d c r w1 (w.heap.size + 1) (w.heap.size + 2) (0, 0) (0, 0) HD.out hd0 hcc HC.out HB3.out HG3.out H43.out H53.out (by omega) (by omega) HL.out).mono ?_; rintro e w2 ⟨rfl, h1, h2, h3⟩; have HG4 := Aside0.mk h1; have HB4 := Aside0.mk h2; have HK4 := Aside0.mk (KeepBut.trans HK3.out h3 (.inl rfl)); clear h1 h2 h3))
        go_ret; exact ⟨by simp, HG4.out, HB4.out, HK4.out⟩
      ·rw [if_neg c4] at h; have c4b : (n.f0 == 28) = false := beq_eq_false_iff_ne.mpr c4; have HL := Aside0.mk h; clear c4 h; go_enter Try.func65, Try.ntmps65
       go_wp2_with (first | (go_at_call 86; refine (tree_isEmpty.calls n.f1.f0 n.f1.f1 _ _ HE.out).mono ?_; rintro e w1 ⟨rfl, hb⟩; have HG3 := Aside0.mk (blk_below HG.out hb); have HB3 := Aside0.mk (HB.out.trans (hb.mono HB.out.size)); have HK3 := Aside0.mk (KeepBut.trans HK.out (KeepBut.of_below hb g none) (.inl rfl)); have H43 := Aside0.mk (blk_below H4.out hb); have H53 := Aside0.mk (blk_below H5.out hb); have z4 : w1.cell? ⟨w.heap.size, 0, none⟩ = some (.int .i64 n.f0) := Lib.cell_of_heap (blk_below H0.out hb) 0; have z5 : w1.cell? ⟨w.heap.size, 3, none⟩ = some (.slice A n.f2.length cc) := Lib.cell_of_heap (blk_below H0.out hb) 3; clear hb) | (go_at_call 71; refine (tree_IsFormed.contains_ok k w0 g m IH.out n.f2 A cc d c r w1 (w.heap.size + 1) (w.heap.size + 2) (0, 0) (0, 0) HD.out hd0 hcc HC.out HB3.out HG3.out H43.out H53.out (by omega) (by omega) HL.out).mono ?_; rintro e w2 ⟨rfl, h1, h2, h3⟩; have HG4 := Aside0.mk h1; have HB4 := Aside0.mk h2; have HK4 := Aside0.mk (KeepBut.trans HK3.out h3 (.inl rfl)); clear h1 h2 h3))
       go_ret; exact ⟨by simp, HG4.out, HB4.out, HK4.out⟩
set_option maxHeartbeats 8000000 in
set_option maxRecDepth 100000 in
theorem tree_IsFormed.calls (k : Nat) (a0_0 : Int) (a0_1 : Int) (a0_2 : ByteArray) (A0_3 : Option Addr) (c0_3 : Nat) (l0_3 : List (S26)) (r : Bool) (w : World) (hr0_3 : Kd.C k26 w A0_3 l0_3.length l0_3) (hc0_3 : l0_3.length ≤ c0_3) (h : tree_IsFormed.f k a0_0 a0_1 a0_2 l0_3 = some r) :
  Calls Try.prog 30 #[.agg #[.int .i64 a0_0, .int .i64 a0_1, .string a0_2, .slice A0_3 l0_3.length c0_3]] w fun e w' => e = .returned (.bool r) ∧ Below w.heap.size w w' := by
 have hu := Try.underlying26; obtain ⟨b, hb, h⟩ := Option.bind_eq_some_iff.mp h; injection h with h; subst h; have hB := below_alloc (below_alloc (Below.refl w.heap.size w) (.cells #[.int .i64 a0_0, .int .i64 a0_1, .string a0_2, .slice A0_3 l0_3.length c0_3] 26)) (.cells #[.int .i64 0] 3)
 have hG : ((w.alloc (.cells #[.int .i64 a0_0, .int .i64 a0_1, .string a0_2, .slice A0_3 l0_3.length c0_3] 26)).alloc (.cells #[.int .i64 0] 3)).heap[w.heap.size + 1]? = some (.cells #[.int .i64 0] 3 (0, 0)) := by
  have := blk_new (w.alloc (.cells #[.int .i64 a0_0, .int .i64 a0_1, .string a0_2, .slice A0_3 l0_3.length c0_3] 26)) (.cells #[.int .i64 0] 3)
  simpa using this
 have HF := Aside0.mk (tree_IsFormed.formed_ok k w (w.heap.size + 1) (by omega) 1001 ⟨a0_0, ⟨a0_1, a0_2⟩, l0_3⟩ A0_3 c0_3 0 0 b _ (by omega) (by omega) hc0_3 hr0_3 hB hG hb); clear hb hB hG hr0_3; go_enter Try.func30, Try.ntmps30
 go_wp2_with (go_at_call 65; refine HF.out.mono ?_; rintro e w1 ⟨rfl, h1, h2, h3⟩; have HB := Aside0.mk h2; clear h1 h2 h3)
 go_ret; exact ⟨rfl, HB.out⟩

end Go.Proofs.Ytnafnieocpkkhaa.P

set_option linter.unusedVariables false
set_option linter.unusedSimpArgs false
namespace Go.Proofs.Ytnafnieocpkkhaa.P
open Go.RowKit Go.Proofs.YtnafnieocpkkhaaW.PrintWords Go.Proofs.YtnafnieocpkkhaaW.PrintLast Go.Proofs.YtnafnieocpkkhaaW.PrintMore
/-- Leaves. -/
def lv (n : Nd) : Nat := if n.f0 = 1 then 1 else (n.f2.attach.map fun x => lv x.1).sum
termination_by SizeOf.sizeOf n
decreasing_by exact Nd.lt_of_mem x.2
theorem lv_eq (n : Nd) : lv n = if n.f0 = 1 then 1 else (n.f2.map lv).sum := by
 rw [lv]
 congr 2
 exact List.attach_map_val (f := lv)
/-- Formed, but for the number of leaves: so many levels are left. -/
def fo : Nat → Nd → Bool
 | 0, _ => false
 | m + 1, n => if n.f0 = 1 then decide (n.f2.length = 0) && tok n.f1.f0 n.f1.f1 else
   decide (2 ≤ n.f0 ∧ n.f0 ≤ 28) && (n.f1.f0 == 0 && (n.f1.f1.toList == ([] : Bs))) && !(decide (n.f0 = 28 ∧ 0 < n.f2.length)) && n.f2.all (fo m)
def fmd (n : Nd) : Bool := fo 1001 n && decide (lv n ≤ 20000)
/-- A tree that is not large. -/
def sm (n : Nd) : Prop := wd n ≤ 1000000000 ∧ nd n ≤ 1000000
theorem sm.kid {n x : Nd} (h : sm n) (hx : x ∈ n.f2) : sm x := by
 have h1 := sum_mem (f := wd) hx; have h2 := sum_mem (f := nd) hx; have e1 := wd_eq n; have e2 := nd_eq n; exact ⟨by have := h.1; omega, by have := h.2; omega⟩
theorem sm.text {n : Nd} (h : sm n) : n.f1.f1.size ≤ 1000000000 := by
 have e1 := wd_eq n; have := h.1
 omega
theorem sm.len {n : Nd} (h : sm n) : n.f2.length < 1000000 := by
 have e2 := nd_eq n; have := len_le n.f2; have := h.2
 omega
theorem all_ev {G : Nat → Nd → Int → Option (Bool × Int)} {f : Nd → Bool} : ∀ (l : List Nd) (c : Nat), c ≤ 20000 → (∀ x ∈ l, ∀ c : Nat, c ≤ 20000 → ∃ b c', Ev (fun k => G k x (c : Int)) (b, c') ∧ (b = true ↔ f x = true ∧ c + lv x ≤ 20000) ∧ (b = true → c' = ((c + lv x : Nat) : Int))) →
  ∃ b c', Ev (fun k => tree_IsFormed.all (G k) l (c : Int)) (b, c') ∧ (b = true ↔ l.all f = true ∧ c + (l.map lv).sum ≤ 20000) ∧ (b = true → c' = ((c + (l.map lv).sum : Nat) : Int)) := by
 intro l
 induction l with
 | nil =>
  intro c hc _; refine ⟨true, (c : Int), Ev.now _, by simpa using hc, fun _ => rfl⟩
 | cons x r ih =>
  intro c hc hx; obtain ⟨b, c', h1, h2, h3⟩ := hx x List.mem_cons_self c hc; simp only [tree_IsFormed.all, List.all_cons, List.map_cons, List.sum_cons]; by_cases hb : b = true
  ·obtain ⟨hf, hl⟩ := h2.1 hb; obtain ⟨b2, c2, g1, g2, g3⟩ := ih (c + lv x) hl (fun y hy => hx y (List.mem_cons_of_mem _ hy)); refine ⟨b2, c2, Ev.bind h1 ?_, ?_, ?_⟩
   ·rw [h3 hb]; exact Ev.pos hb g1
   ·rw [g2, hf, Bool.true_and, Nat.add_assoc]
   ·intro h; rw [g3 h, Nat.add_assoc]
  ·refine ⟨false, c', Ev.bind h1 (Ev.neg hb (Ev.now _)), ?_, fun h => by cases h⟩
   constructor
   ·intro h; cases h
   ·rintro ⟨h4, h5⟩; rw [Bool.and_eq_true] at h4; exact absurd (h2.2 ⟨h4.1, by omega⟩) hb
theorem go_ev : ∀ (m : Nat) (n : Nd) (c : Nat), sm n → c ≤ 20000 → ∃ b c', Ev (fun k => tree_IsFormed.go k m n (c : Int)) (b, c') ∧ (b = true ↔ fo m n = true ∧ c + lv n ≤ 20000) ∧ (b = true → c' = ((c + lv n : Nat) : Int)) := by
 intro m
 induction m with
 | zero =>
  intro n c _ _; exact ⟨false, c, Ev.now _, by simp [fo], fun h => by cases h⟩
 | succ m ih =>
  intro n c hs hc; rw [lv_eq]; simp only [tree_IsFormed.go, fo]; by_cases h1 : n.f0 = 1
  ·simp only [if_pos h1]; rw [w64 (n := (c : Int) + 1) (by omega) (by omega)]
   have no : ∀ x : Int, (¬ ((decide (n.f2.length = 0) && tok n.f1.f0 n.f1.f1) = true ∧ c + 1 ≤ 20000)) → ∃ b c', Ev (fun _ => (some (false, x) : Option (Bool × Int))) (b, c') ∧ (b = true ↔ (decide (n.f2.length = 0) && tok n.f1.f0 n.f1.f1) = true ∧ c + 1 ≤ 20000) ∧ (b = true → c' = ((c + 1 : Nat) : Int)) :=
    fun x hx => ⟨false, x, Ev.now _, ⟨fun h => (by cases h), fun h => absurd h hx⟩, fun h => (by cases h)⟩
   by_cases h2 : c + 1 ≤ 20000
   ·have g2 : (c : Int) + 1 ≤ 20000 := (by omega)
    simp only [if_pos g2]; by_cases h3 : n.f2.length = 0
    ·simp only [if_pos h3]; by_cases h4 : n.f1.f1.size ≤ 20000
     ·have g4 : (n.f1.f1.size : Int) ≤ 20000 := (by omega)
      simp only [if_pos g4]; refine ⟨tok n.f1.f0 n.f1.f1, _, Ev.bind (istoken_ev _ _ hs.text) (Ev.now _), ?_, fun _ => by omega⟩
      simp [h3, h2]
     ·have g4 : ¬ (n.f1.f1.size : Int) ≤ 20000 := (by omega)
      simp only [if_neg g4]; refine no _ (fun x => ?_); have := (Bool.and_eq_true_iff.1 x.1).2; exact h4 (of_decide_eq_true this).2.1
    ·simp only [if_neg h3]; refine no _ (fun x => h3 ?_); exact of_decide_eq_true (Bool.and_eq_true_iff.1 x.1).1
   ·have g2 : ¬ (c : Int) + 1 ≤ 20000 := (by omega)
    simp only [if_neg g2]; exact no _ (fun x => h2 x.2)
  ·simp only [if_neg h1]
   have no : ∀ B : Bool, B = false → ∃ b c', Ev (fun _ => (some (false, (c : Int)) : Option (Bool × Int))) (b, c') ∧ (b = true ↔ B = true ∧ c + (n.f2.map lv).sum ≤ 20000) ∧ (b = true → c' = ((c + (n.f2.map lv).sum : Nat) : Int)) :=
    fun B hB => ⟨false, c, Ev.now _, ⟨fun h => (by cases h), fun h => (by rw [hB] at h; cases h.1)⟩, fun h => (by cases h)⟩
   by_cases h2 : n.f0 < 2
   ·simp only [if_pos h2]; exact no _ (by rw [decide_eq_false (p := 2 ≤ n.f0 ∧ n.f0 ≤ 28) (fun x => by omega)]; rfl)
   ·simp only [if_neg h2]; by_cases h3 : n.f0 > 28
    ·simp only [if_pos h3]; exact no _ (by rw [decide_eq_false (p := 2 ≤ n.f0 ∧ n.f0 ≤ 28) (fun x => by omega)]; rfl)
    ·simp only [if_neg h3]; rw [decide_eq_true (p := 2 ≤ n.f0 ∧ n.f0 ≤ 28) (by omega), Bool.true_and]; have hE : tree_isEmpty.f n.f1.f0 n.f1.f1 = some (n.f1.f0 == 0 && (n.f1.f1.toList == ([] : Bs))) := rfl; simp only [hE, Option.bind_some]; by_cases h4 : (n.f1.f0 == 0 && (n.f1.f1.toList == ([] : Bs))) = true
     ·simp only [if_pos h4]; rw [h4, Bool.true_and]; have hA := all_ev (G := fun k => tree_IsFormed.go k m) (f := fo m) n.f2 c hc (fun x hx c hc => ih x c (hs.kid hx) hc); by_cases h5 : n.f0 = 28
      ·simp only [if_pos h5]; by_cases h6 : 0 < n.f2.length
       ·simp only [if_pos h6]; exact no _ (by rw [decide_eq_true (p := n.f0 = 28 ∧ 0 < n.f2.length) ⟨h5, h6⟩]; rfl)
       ·simp only [if_neg h6]; rw [decide_eq_false (p := n.f0 = 28 ∧ 0 < n.f2.length) (fun x => h6 x.2)]; exact hA
      ·simp only [if_neg h5]; rw [decide_eq_false (p := n.f0 = 28 ∧ 0 < n.f2.length) (fun x => h5 x.1)]; exact hA
     ·simp only [if_neg h4]; rw [Bool.not_eq_true] at h4; exact no _ (by rw [h4]; rfl)
theorem IsFormed_ev (n : Nd) (hs : sm n) : Ev (fun k => tree_IsFormed.f k n.f0 n.f1.f0 n.f1.f1 n.f2) (fmd n) := by
 obtain ⟨b, c', h1, h2, _⟩ := go_ev 1001 n 0 hs (by omega); unfold tree_IsFormed.f
 have : b = fmd n := by
  unfold fmd; rw [Bool.eq_iff_iff, h2, Bool.and_eq_true, decide_eq_true_eq, Nat.zero_add]
 rw [← this]; exact Ev.bind h1 (Ev.now _)
end Go.Proofs.Ytnafnieocpkkhaa.P

namespace Go.Proofs.Ytnafnieocpkkhaa.P
open Go.RowKit Go.Proofs.YtnafnieocpkkhaaW.PrintWords Go.Proofs.YtnafnieocpkkhaaW.PrintLast Go.Proofs.YtnafnieocpkkhaaW.PrintMore
attribute [local go_sem] max2_int min2_int max_two min_two max_three min_three max_four min_four
set_option linter.unusedVariables false
set_option linter.unusedSimpArgs false

/-! ### tree_at: function 76 -/
mutual
def tree_at.l0 : Nat → Int → List Int → Int → Int → Int → Int → ByteArray → List (S26) → Option (Int × Int × ByteArray × (List (S26)) × Int × Bool)
 | 0, _, _, _, _, _, _, _, _ => none
 | k + 1, x7, x12, x13, x14, x408000, x408001, x408002, x408003 => if x14 < x13 then (if 0 ≤ x14 then (if x14 < (x12.length : Int) then (if (rd x12 x14) < 0 then (tree_at.j1 k x7 (rd x12 x14) x12 x13 x14 true x408000 x408001 x408002 x408003) else (tree_at.j1 k x7 (rd x12 x14) x12 x13 x14 (decide ((rd x12 x14) ≥ (x408003.length : Int))) x408000 x408001 x408002 x408003)) else (none)) else (none)) else (some (x408000, x408001, x408002, x408003, x7, true))
def tree_at.j1 : Nat → Int → Int → List Int → Int → Int → Bool → Int → Int → ByteArray → List (S26) → Option (Int × Int × ByteArray × (List (S26)) × Int × Bool)
 | 0, _, _, _, _, _, _, _, _, _, _ => none
 | k + 1, x7, x9, x12, x13, x14, x26, x408000, x408001, x408002, x408003 => if x26 = true then (some (0, 0, (⟨#[]⟩ : ByteArray), ([] : List (S26)), 0, false)) else (if 0 ≤ x9 then (if x9 ≤ (x408003.length : Int) then ((some (x408003.take (x9 : Int).toNat : List (S26))).bind fun y410 => (tree_at.l1 k x7 x9 x12 x13 x14 y410 (y410.length : Int) 0 x408000 x408001 x408002 x408003)) else (none)) else (none))
def tree_at.l1 : Nat → Int → Int → List Int → Int → Int → List (S26) → Int → Int → Int → Int → ByteArray → List (S26) → Option (Int × Int × ByteArray × (List (S26)) × Int × Bool)
 | 0, _, _, _, _, _, _, _, _, _, _, _, _ => none
 | k + 1, x7, x9, x12, x13, x14, x31, x32, x33, x408000, x408001, x408002, x408003 => if x33 < x32 then (if 0 ≤ x33 then (if x33 < (x31.length : Int) then ((tree_width.f k ((rd_T26 x31 x33).f0) ((rd_T26 x31 x33).f1.f0) ((rd_T26 x31 x33).f1.f1) ((rd_T26 x31 x33).f2)).bind fun t417 => (tree_at.l1 k (wrap64 (x7 + t417)) x9 x12 x13 x14 x31 x32 (wrap64 (x33 + 1)) x408000 x408001 x408002 x408003)) else (none)) else (none)) else (if 0 ≤ x9 then (if x9 < (x408003.length : Int) then (tree_at.l0 k x7 x12 x13 (wrap64 (x14 + 1)) ((rd_T26 x408003 x9).f0) ((rd_T26 x408003 x9).f1.f0) ((rd_T26 x408003 x9).f1.f1) ((rd_T26 x408003 x9).f2)) else (none)) else (none))
end
def tree_at.f (k : Nat) (a0_0 : Int) (a0_1 : Int) (a0_2 : ByteArray) (l0_3 : List (S26)) (l1 : List Int) : Option (Int × Int × ByteArray × (List (S26)) × Int × Bool) := tree_at.l0 k 0 l1 (l1.length : Int) 0 a0_0 a0_1 a0_2 l0_3
set_option maxHeartbeats 8000000 in
set_option maxRecDepth 100000 in
theorem tree_at.calls (k : Nat) (a0_0 : Int) (a0_1 : Int) (a0_2 : ByteArray) (P0_3_ : Nat → Prop) (A0_3 : Option Addr) (c0_3 : Nat) (l0_3 : List (S26)) (A1 : Option Addr) (c1 : Nat) (l1 : List Int) (r1 : Int) (r2 : Int) (r3 : ByteArray) (r4 : List (S26)) (r5 : Int) (r6 : Bool) (w : World) (hs0_3 : Kd.V k26 26 w w.heap.size (fun k_ => P0_3_ k_) (.slice A0_3 l0_3.length c0_3) l0_3) (hr1 : Kd.C (Kd.int .i64) w A1 l1.length l1) (hc1 : l1.length ≤ c1) (h : tree_at.f k a0_0 a0_1 a0_2 l0_3 l1 = some (r1, r2, r3, r4, r5, r6)) :
  Calls Try.prog 76 #[.agg #[.int .i64 a0_0, .int .i64 a0_1, .string a0_2, .slice A0_3 l0_3.length c0_3], .slice A1 l1.length c1] w fun e w' => ∃ v3_ : Value, e = .returned (.tuple #[.agg #[.int .i64 r1, .int .i64 r2, .string r3, v3_], .int .i64 r5, .bool r6]) ∧ Kd.V k26 26 w' w.heap.size (fun k_ => (P0_3_ k_ ∨ w.heap.size ≤ k_)) v3_ r4 ∧ Below w.heap.size w w' := by
 have hu26 := Try.underlying26; have HO0_3 := Aside0.mk (show Kd.V k26 26 w w.heap.size (fun k_ => (P0_3_ k_ ∨ w.heap.size ≤ k_)) (.slice A0_3 l0_3.length c0_3) l0_3 from Kd.V_mono hs0_3 (fun k_ hk => .inl hk)); have HR1 := Aside0.mk hr1; have HC1 := Aside0.mk hc1; clear hr1 hc1; have HB := Aside0.mk (Below.refl w.heap.size w); have H : (tree_at.l0 k 0 l1 (l1.length : Int) 0 a0_0 a0_1 a0_2 l0_3) = some (r1, r2, r3, r4, r5, r6) := h; clear h; have H' := Aside0.mk H; clear H; go_enter Try.func76, Try.ntmps76
 go_wp2_with (first | ((with_reducible refine gate_dst (N := 2) rfl ?_); (try (refine gate_guard (by rfl) ?_; dsimp only)); refine box_event ?hg (N := 2) ?hd (cs := #[.int .i64 a0_0, .int .i64 a0_1, .string a0_2, .slice A0_3 l0_3.length c0_3]) (t := 26) ?hr ?_; (case hd => rfl); (case hg => rfl); (case hr => first | (go_simp; done) | (go_simp; rfl)); intro gb407 hg w3 hbox hb; have n0_ := Aside0.mk (Kd.V_below (Kd.V_elderB (by (with_reducible repeat (first | apply Kd.V_alloc | apply Kd.V_drewN | apply Kd.V_drew)); exact HO0_3.out) gb407 (Nat.le_of_eq hg.symm)) hb); have n1_ := Aside0.mk (below_step (by repeat (first | (with_reducible first | exact HB.out | apply below_alloc | apply pw_below_drewN | apply below_drew1) | exact HB.out)) hb); have n2_ := Aside0.mk (hbox); have n3_ := Aside0.mk ((by rw [hg]; exact (below_size (by repeat (first | (with_reducible first | exact HB.out | apply below_alloc | apply pw_below_drewN | apply below_drew1) | exact HB.out))) : w.heap.size ≤ gb407)); have n4_ := Aside0.mk ((by rw [hg]; exact (below_size (by repeat (first | (with_reducible first | exact HB.out | apply below_alloc | apply pw_below_drewN | apply below_drew1) | exact HB.out))) : w.heap.size ≤ gb407)); clear HO0_3 HB; have HO0_3 := n0_; have HB := n1_; have BK407 := n2_; have GW407 := n3_; have GE407 := n4_; clear n0_ n1_ n2_ n3_ n4_; clear hb hbox hg) | ((with_reducible refine gate_dst (N := 4) rfl ?_); (try (refine gate_guard (by rfl) ?_; dsimp only)); refine box_event ?hg (N := 4) ?hd (cs := #[.int .i64 0, .int .i64 0, .string (⟨#[]⟩ : ByteArray), .slice none 0 0]) (t := 26) ?hr ?_; (case hd => rfl); (case hg => rfl); (case hr => first | (go_simp; done) | (go_simp; rfl)); intro gb408 hg w4 hbox hb; have n0_ := Aside0.mk (Kd.V_below (Kd.V_elderB (by (with_reducible repeat (first | apply Kd.V_alloc | apply Kd.V_drewN | apply Kd.V_drew)); exact HO0_3.out) gb408 (Nat.le_of_eq hg.symm)) hb); have n1_ := Aside0.mk (blk_below (g := gb407) (o := .cells #[.int .i64 a0_0, .int .i64 a0_1, .string a0_2, .slice A0_3 l0_3.length c0_3] 26 (0, 0)) (Cl.blk BK407.out) hb); have n2_ := Aside0.mk (below_step (by repeat (first | (with_reducible first | exact HB.out | apply below_alloc | apply pw_below_drewN | apply below_drew1 | refine below_set ?_ GE407.out) | exact HB.out)) hb); have n3_ := Aside0.mk (hbox); have n4_ := Aside0.mk ((by rw [hg]; exact (below_size (by repeat (first | (with_reducible first | exact HB.out | apply below_alloc | apply pw_below_drewN | apply below_drew1 | refine below_set ?_ GE407.out) | exact HB.out))) : w.heap.size ≤ gb408)); have n5_ := Aside0.mk ((by rw [hg]; exact (below_size (by repeat (first | (with_reducible first | exact HB.out | apply below_alloc | apply pw_below_drewN | apply below_drew1 | refine below_set ?_ GE407.out) | exact HB.out))) : w.heap.size ≤ gb408)); have n6_ := Aside0.mk ((by rw [hg]; exact Nat.ne_of_lt (blk_lt (Cl.blk BK407.out)) : gb407 ≠ gb408)); have n7_ := Aside0.mk ((by rw [hg]; exact Nat.ne_of_gt (blk_lt (Cl.blk BK407.out)) : gb408 ≠ gb407)); clear HO0_3 BK407 HB; have HO0_3 := n0_; have BK407 := n1_; have HB := n2_; have BK408 := n3_; have GW408 := n4_; have GE408 := n5_; have NB407_408 := n6_; have NB408_407 := n7_; clear n0_ n1_ n2_ n3_ n4_ n5_ n6_ n7_; clear hb hbox hg))
 go_loopg [7, 14] k (fun kq v7 v14 w' => ∃ (x7_1 : Int) (x14_1 : Int) (x408000_1 : Int) (x408001_1 : Int) (x408002_1 : ByteArray) (x408003_1 : List (S26)) (x409000_1 : Int) (x409001_1 : Int) (x409002_1 : ByteArray) (u408003 : Value), v7 = .int .i64 x7_1 ∧ v14 = .int .i64 x14_1 ∧ Aside0 (tree_at.l0 kq x7_1 l1 (l1.length : Int) x14_1 x408000_1 x408001_1 x408002_1 x408003_1 = some (r1, r2, r3, r4, r5, r6)) ∧ Aside0 (kq ≤ k) ∧ Aside0 (Kd.V k26 26 w' w.heap.size (fun k_ => (P0_3_ k_ ∨ w.heap.size ≤ k_) ∧ k_ ≠ gb407 ∧ k_ ≠ gb408) u408003 x408003_1) ∧ Aside0 (w'.heap[gb407]? = some (.cells #[.int .i64 x408000_1, .int .i64 x408001_1, .string x408002_1, u408003] 26 (0, 0))) ∧ Aside0 (w'.heap[gb408]? = some (.cells #[.int .i64 x409000_1, .int .i64 x409001_1, .string x409002_1, (.slice none 0 0)] 26 (0, 0))) ∧ Aside0 (Below w.heap.size w w'))
 case atStart => exact ⟨(0), (0), (a0_0), (a0_1), (a0_2), (l0_3), (0), (0), ((⟨#[]⟩ : ByteArray)), (.slice A0_3 l0_3.length c0_3), (by first | rfl | (simp; done) | (simp [*]; done)), (by first | rfl | (simp; done) | (simp [*]; done)), H', ⟨Nat.le_refl _⟩, ⟨by (with_reducible repeat (first | apply Kd.V_alloc | apply Kd.V_drewN | apply Kd.V_drew)); exact Kd.V_mono HO0_3.out (fun _ hk => ⟨hk.1.1, ⟨hk.1.2, hk.2⟩⟩)⟩, ⟨by (with_reducible repeat (first | refine blk_drewN ?_ _ | refine blk_drew ?_ | refine blk_alloc ?_ _)); exact BK407.out⟩, ⟨by (with_reducible repeat (first | refine blk_drewN ?_ _ | refine blk_drew ?_ | refine blk_alloc ?_ _)); exact BK408.out⟩, ⟨by repeat (first | (with_reducible first | exact HB.out | apply below_alloc | apply pw_below_drewN | apply below_drew1 | refine below_set ?_ GE407.out | refine below_set ?_ GE408.out) | exact HB.out)⟩⟩
 case round =>
  clear H'; obtain ⟨x7_1, x14_1, x408000_1, x408001_1, x408002_1, x408003_1, x409000_1, x409001_1, x409002_1, u408003, rfl, rfl, HA, HK1, HO_408003, BK407, BK408, HB⟩ := hrel
  cases gk with
  | zero => exact absurd HA.out (by simp [tree_at.l0])
  | succ k1 =>
   have H := HA.out; clear HA; simp only [tree_at.l0] at H; by_cases c5 : x14_1 < (l1.length : Int)
   ·rw [if_pos c5] at H; have c5b0 : decide (x14_1 < (l1.length : Int)) = true := decide_eq_true c5; clear c5; by_cases c6 : 0 ≤ x14_1
    ·rw [if_pos c6] at H; have c6b0 : decide (0 ≤ x14_1) = true := decide_eq_true c6; clear c6; by_cases c7 : x14_1 < (l1.length : Int)
     ·rw [if_pos c7] at H; have c7b0 : decide (x14_1 < (l1.length : Int)) = true := decide_eq_true c7; clear c7; have HC8 := Aside0.mk H; clear H; have p409 : 0 ≤ (x14_1 : Int) := of_decide_eq_true (by first | (with_reducible assumption) | assumption); have q409 : x14_1 < (l1.length : Int) := of_decide_eq_true (by first | (with_reducible assumption) | assumption); obtain ⟨ad409, e409, hx409_0⟩ := Kd.at_int HR1.out x14_1 p409 q409
      cases e409
      replace hx409_0 := (HB.out.cell (World.block_lt_of_cell? w _ hx409_0)).trans hx409_0; replace p409 := eq_true p409; replace q409 := eq_true q409
      go_upto_region 5 with (fail)
      go_cut [26] (fun v26 wc => ∃ (kq : Nat) (x26_7 : Bool), v26 = .bool x26_7 ∧ Aside0 (tree_at.j1 kq x7_1 (rd l1 x14_1) l1 (l1.length : Int) x14_1 x26_7 x408000_1 x408001_1 x408002_1 x408003_1 = some (r1, r2, r3, r4, r5, r6)) ∧ Aside0 (kq ≤ k1) ∧ Aside0 (Kd.V k26 26 wc w.heap.size (fun k_ => (P0_3_ k_ ∨ w.heap.size ≤ k_) ∧ k_ ≠ gb407 ∧ k_ ≠ gb408) u408003 x408003_1) ∧ Aside0 (wc.heap[gb407]? = some (.cells #[.int .i64 x408000_1, .int .i64 x408001_1, .string x408002_1, u408003] 26 (0, 0))) ∧ Aside0 (wc.heap[gb408]? = some (.cells #[.int .i64 x409000_1, .int .i64 x409001_1, .string x409002_1, (.slice none 0 0)] 26 (0, 0))) ∧ Aside0 (Below w.heap.size w wc))
      case first =>
       have H := HC8.out; clear HC8; by_cases c9 : (rd l1 x14_1) < 0
       ·rw [if_pos c9] at H; have c9b0 : decide ((rd l1 x14_1) < 0) = true := decide_eq_true c9; clear c9
        (first | rw [c9b0] | (simp only [i64_w, i32_w]; rw [c9b0]) | skip)
        have H' := Aside0.mk H; clear H; go_wp2
        go_meet
        case rel => exact ⟨_, (true), (by first | rfl | (simp; done) | (simp [*]; done)), H', ⟨by have := HK1.out; first | omega | exact Nat.le_refl _⟩, ⟨by (with_reducible repeat (first | apply Kd.V_alloc | apply Kd.V_drewN | apply Kd.V_drew)); exact HO_408003.out⟩, ⟨by (with_reducible repeat (first | refine blk_drewN ?_ _ | refine blk_drew ?_ | refine blk_alloc ?_ _)); exact BK407.out⟩, ⟨by (with_reducible repeat (first | refine blk_drewN ?_ _ | refine blk_drew ?_ | refine blk_alloc ?_ _)); exact BK408.out⟩, ⟨by repeat (first | (with_reducible first | exact HB.out | apply below_alloc | apply pw_below_drewN | apply below_drew1 | refine below_set ?_ GE407.out | refine below_set ?_ GE408.out) | exact HB.out)⟩⟩
       ·rw [if_neg c9] at H; have c9b0 : decide ((rd l1 x14_1) < 0) = false := decide_eq_false c9; clear c9
        (first | rw [c9b0] | (simp only [i64_w, i32_w]; rw [c9b0]) | skip)
        have H' := Aside0.mk H; clear H; have hnb10 := NB407_408.out; have hnc10 := NB408_407.out; have hcz11_0 : wr.cell? ⟨gb407, 0, none⟩ = some (.int .i64 x408000_1) := (blk_cell BK407.out 0).trans rfl; have hcz11_1 : wr.cell? ⟨gb407, 1, none⟩ = some (.int .i64 x408001_1) := (blk_cell BK407.out 1).trans rfl; have hcz11_2 : wr.cell? ⟨gb407, 2, none⟩ = some (.string x408002_1) := (blk_cell BK407.out 2).trans rfl; have hcz11_3 : wr.cell? ⟨gb407, 3, none⟩ = some (u408003) := (blk_cell BK407.out 3).trans rfl; have hfz11_0 := blk_frozen BK407.out 0; have hfz11_1 := blk_frozen BK407.out 1; have hfz11_2 := blk_frozen BK407.out 2; have hfz11_3 := blk_frozen BK407.out 3; obtain ⟨Ao12, co12, eo12⟩ := Kd.V_slice HO_408003.out; subst eo12; go_wp2
        go_meet
        case rel => exact ⟨_, (decide ((rd l1 x14_1) ≥ (x408003_1.length : Int))), (by first | rfl | (simp; done) | (simp [*]; done)), H', ⟨by have := HK1.out; first | omega | exact Nat.le_refl _⟩, ⟨by (with_reducible repeat (first | apply Kd.V_alloc | apply Kd.V_drewN | apply Kd.V_drew)); exact HO_408003.out⟩, ⟨by (with_reducible repeat (first | refine blk_drewN ?_ _ | refine blk_drew ?_ | refine blk_alloc ?_ _)); exact BK407.out⟩, ⟨by (with_reducible repeat (first | refine blk_drewN ?_ _ | refine blk_drew ?_ | refine blk_alloc ?_ _)); exact BK408.out⟩, ⟨by repeat (first | (with_reducible first | exact HB.out | apply below_alloc | apply pw_below_drewN | apply below_drew1 | refine below_set ?_ GE407.out | refine below_set ?_ GE408.out) | exact HB.out)⟩⟩
      case rest =>
       clear HC8; obtain ⟨kq, x26_7, rfl, HA, HJ7, HO_408003, BK407, BK408, HB⟩ := hcut
       cases kq with
       | zero => exact absurd HA.out (by simp [tree_at.j1])
       | succ kj7 =>
        have H := HA.out; clear HA; simp only [tree_at.j1] at H; by_cases c13 : x26_7 = true
        ·subst c13
         have H1 : (some (0, 0, (⟨#[]⟩ : ByteArray), ([] : List (S26)), 0, false)) = some (r1, r2, r3, r4, r5, r6) := (by rw [if_pos rfl] at H; exact H)
         clear H; have H := H1; clear H1; simp only [Option.some.injEq, Prod.mk.injEq] at H; obtain ⟨rfl, rfl, rfl, rfl, rfl, rfl⟩ := H; have hnb14 := NB408_407.out; have hnc14 := NB407_408.out; have hcz15_0 : wc.cell? ⟨gb408, 0, none⟩ = some (.int .i64 x409000_1) := (blk_cell BK408.out 0).trans rfl; have hcz15_1 : wc.cell? ⟨gb408, 1, none⟩ = some (.int .i64 x409001_1) := (blk_cell BK408.out 1).trans rfl; have hcz15_2 : wc.cell? ⟨gb408, 2, none⟩ = some (.string x409002_1) := (blk_cell BK408.out 2).trans rfl; have hcz15_3 : wc.cell? ⟨gb408, 3, none⟩ = some (.slice none 0 0) := (blk_cell BK408.out 3).trans rfl; have hfz15_0 := blk_frozen BK408.out 0; have hfz15_1 := blk_frozen BK408.out 1; have hfz15_2 := blk_frozen BK408.out 2; have hfz15_3 := blk_frozen BK408.out 3; go_wp2; refine bodyPost_ret (results_ctt rfl _ _ gb408 26 #[.int .i64 0, .int .i64 0, .string (⟨#[]⟩ : ByteArray), .slice none 0 0] (0, 0) _ rfl (by (with_reducible repeat (first | refine blk_drewN ?_ _ | refine blk_drew ?_ | refine blk_alloc ?_ _)); refine blk_put (cs := #[.int .i64 0, .int .i64 0, .string (⟨#[]⟩ : ByteArray), .slice none 0 0]) ?_ 3 _ rfl; (with_reducible repeat (first | refine blk_drewN ?_ _ | refine blk_drew ?_ | refine blk_alloc ?_ _)); refine blk_put (cs := #[.int .i64 0, .int .i64 0, .string x409002_1, .slice none 0 0]) ?_ 2 _ rfl; (with_reducible repeat (first | refine blk_drewN ?_ _ | refine blk_drew ?_ | refine blk_alloc ?_ _)); refine blk_put (cs := #[.int .i64 0, .int .i64 x409001_1, .string x409002_1, .slice none 0 0]) ?_ 1 _ rfl; (with_reducible repeat (first | refine blk_drewN ?_ _ | refine blk_drew ?_ | refine blk_alloc ?_ _)); refine blk_put (cs := #[.int .i64 x409000_1, .int .i64 x409001_1, .string x409002_1, .slice none 0 0]) ?_ 0 _ rfl; (with_reducible repeat (first | refine blk_drewN ?_ _ | refine blk_drew ?_ | refine blk_alloc ?_ _)); exact BK408.out) Try.underlying26 rfl (by kernel_rfl)) rfl ?_; exact ⟨_, by first | rfl | (simp [errW_none, errW_some] <;> rfl) | (simp [*, errW_none, errW_some] <;> rfl), (by first | exact Kd.V_nil _ _ _ _ _ | exact Kd.V_mono (Kd.R_V (by first | exact Kd.R_nil _ _ _ _ _ | exact Kd.N_nil _ _ _ _ _ | exact Kd.V_nil _ _ _ _ _ | exact Kd.Q_nil _ _ _ _ _ | exact Kd.S_nil _ _ _ _ _)) (fun k_ hk => by first | exact ⟨(.inr (hk.1)), hk.2⟩ | exact (.inr (hk)))), by repeat (first | (with_reducible first | exact HB.out | apply below_alloc | apply pw_below_drewN | apply below_drew1 | refine below_set ?_ GE407.out | refine below_set ?_ GE408.out) | exact HB.out)⟩
        ·replace c13 := Bool.eq_false_iff.mpr c13; subst c13
         have H1 : (if 0 ≤ (rd l1 x14_1) then (if (rd l1 x14_1) ≤ (x408003_1.length : Int) then ((some (x408003_1.take ((rd l1 x14_1) : Int).toNat : List (S26))).bind fun y410 => (tree_at.l1 kj7 x7_1 (rd l1 x14_1) l1 (l1.length : Int) x14_1 y410 (y410.length : Int) 0 x408000_1 x408001_1 x408002_1 x408003_1)) else (none)) else (none)) = some (r1, r2, r3, r4, r5, r6) := (by rw [if_neg (show ¬ (false = true) by decide)] at H; exact H)
         clear H; have H := H1; clear H1; by_cases c16 : 0 ≤ (rd l1 x14_1)
         ·rw [if_pos c16] at H; have c16b0 := eq_true c16; have c16b1 : decide (0 ≤ (rd l1 x14_1)) = true := decide_eq_true c16; clear c16; by_cases c17 : (rd l1 x14_1) ≤ (x408003_1.length : Int)
          ·rw [if_pos c17] at H; have c17b0 := eq_true c17; have c17b1 : decide ((rd l1 x14_1) ≤ (x408003_1.length : Int)) = true := decide_eq_true c17; clear c17
           obtain ⟨y410, hy410⟩ : ∃ y_ : List (S26), y_ = (x408003_1.take ((rd l1 x14_1) : Int).toNat) := ⟨_, rfl⟩
           replace H : (tree_at.l1 kj7 x7_1 (rd l1 x14_1) l1 (l1.length : Int) x14_1 y410 (y410.length : Int) 0 x408000_1 x408001_1 x408002_1 x408003_1) = some (r1, r2, r3, r4, r5, r6) := by first | (rw [hy410]; with_reducible exact H) | (have H2_ := (Option.bind_some _ _).symm.trans H; rw [hy410]; with_reducible exact H2_) | (have H2_ := (Option.bind_some _ _).symm.trans H; with_reducible exact H2_) | with_reducible exact H | (rw [hy410]; exact H) | exact H
           have Ny410 := Aside0.mk hy410; clear hy410; have H' := Aside0.mk H; clear H; have hnb18 := NB407_408.out; have hnc18 := NB408_407.out; have hcz19_0 : wc.cell? ⟨gb407, 0, none⟩ = some (.int .i64 x408000_1) := (blk_cell BK407.out 0).trans rfl; have hcz19_1 : wc.cell? ⟨gb407, 1, none⟩ = some (.int .i64 x408001_1) := (blk_cell BK407.out 1).trans rfl; have hcz19_2 : wc.cell? ⟨gb407, 2, none⟩ = some (.string x408002_1) := (blk_cell BK407.out 2).trans rfl; have hcz19_3 : wc.cell? ⟨gb407, 3, none⟩ = some (u408003) := (blk_cell BK407.out 3).trans rfl; have hfz19_0 := blk_frozen BK407.out 0; have hfz19_1 := blk_frozen BK407.out 1; have hfz19_2 := blk_frozen BK407.out 2; have hfz19_3 := blk_frozen BK407.out 3; obtain ⟨Ao21, co21, eo21⟩ := Kd.V_slice HO_408003.out; subst eo21; have q20 : ((rd l1 x14_1) : Int) ≤ ((x408003_1.length : Int) : Int) := of_decide_eq_true (by first | (with_reducible assumption) | assumption); obtain ⟨i020, hi020, _, hsz20, _⟩ := info_parts info26; have hroom20 : x408003_1.length ≤ co21 := (Kd.V_reads' HO_408003.out).2.1; have hC20 : Kd.F k26 _ _ Ao21 x408003_1.length x408003_1 := (Kd.V_at (base := w.heap.size) HO_408003.out).2.2; have hcut20 := cut_to (P := Try.prog) 24 26 .i64 Try.underlying24 hi020 Ao21 x408003_1.length co21 (rd l1 x14_1) (of_decide_eq_true (by first | (with_reducible assumption) | assumption)) q20 hroom20; have hr20 := Kd.F_take (m := ((rd l1 x14_1) : Int).toNat) hC20 (by omega)
           have hy20 : y410.length = ((rd l1 x14_1) : Int).toNat := (by rw [Ny410.out, List.length_take]; omega)
           rw [← Ny410.out] at hr20; rw [← hy20] at hcut20; have HO414 := Aside0.mk (show Kd.V k26 26 _ w.heap.size _ (.slice Ao21 y410.length co21) y410 from Kd.V_mk (by omega) hr20); have HC414 := Aside0.mk (show y410.length ≤ co21 from by omega); clear hr20 hC20 hroom20 hi020 hsz20; have KY20 := Aside0.mk hy20; clear hy20; replace q20 := eq_true q20; go_wp2
           go_loopg [7, 33] kj7 (fun kq v7 v33 w' => ∃ (x7_3 : Int) (x33_3 : Int), v7 = .int .i64 x7_3 ∧ v33 = .int .i64 x33_3 ∧ Aside0 (tree_at.l1 kq x7_3 (rd l1 x14_1) l1 (l1.length : Int) x14_1 y410 (y410.length : Int) x33_3 x408000_1 x408001_1 x408002_1 x408003_1 = some (r1, r2, r3, r4, r5, r6)) ∧ Aside0 (kq ≤ kj7) ∧ Aside0 (Kd.V k26 26 w' w.heap.size (fun k_ => (P0_3_ k_ ∨ w.heap.size ≤ k_) ∧ k_ ≠ gb407 ∧ k_ ≠ gb408) (.slice Ao21 y410.length co21) y410) ∧ Aside0 (Kd.V k26 26 w' w.heap.size (fun k_ => (P0_3_ k_ ∨ w.heap.size ≤ k_) ∧ k_ ≠ gb407 ∧ k_ ≠ gb408) (.slice Ao21 x408003_1.length co21) x408003_1) ∧ Aside0 (w'.heap[gb407]? = some (.cells #[.int .i64 x408000_1, .int .i64 x408001_1, .string x408002_1, (.slice Ao21 x408003_1.length co21)] 26 (0, 0))) ∧ Aside0 (w'.heap[gb408]? = some (.cells #[.int .i64 x409000_1, .int .i64 x409001_1, .string x409002_1, (.slice none 0 0)] 26 (0, 0))) ∧ Aside0 (Below w.heap.size w w'))
           case atStart => exact ⟨(x7_1), (0), (by first | rfl | (simp; done) | (simp [*]; done)), (by first | rfl | (simp; done) | (simp [*]; done)), H', ⟨Nat.le_refl _⟩, ⟨by (with_reducible repeat (first | apply Kd.V_alloc | apply Kd.V_drewN | apply Kd.V_drew)); exact HO414.out⟩, ⟨by (with_reducible repeat (first | apply Kd.V_alloc | apply Kd.V_drewN | apply Kd.V_drew)); exact HO_408003.out⟩, ⟨by (with_reducible repeat (first | refine blk_drewN ?_ _ | refine blk_drew ?_ | refine blk_alloc ?_ _)); exact BK407.out⟩, ⟨by (with_reducible repeat (first | refine blk_drewN ?_ _ | refine blk_drew ?_ | refine blk_alloc ?_ _)); exact BK408.out⟩, ⟨by repeat (first | (with_reducible first | exact HB.out | apply below_alloc | apply pw_below_drewN | apply below_drew1 | refine below_set ?_ GE407.out | refine below_set ?_ GE408.out) | exact HB.out)⟩⟩
           case round =>
            clear H'; obtain ⟨x7_3, x33_3, rfl, rfl, HA, HK3, HO_31, HO_408003, BK407, BK408, HB⟩ := hrel
            cases gk with
            | zero => exact absurd HA.out (by simp [tree_at.l1])
            | succ k3 =>
             have H := HA.out; clear HA; simp only [tree_at.l1] at H; by_cases c22 : x33_3 < (y410.length : Int)
             ·rw [if_pos c22] at H; have c22b0 : decide (x33_3 < (y410.length : Int)) = true := decide_eq_true c22; clear c22; by_cases c23 : 0 ≤ x33_3
              ·rw [if_pos c23] at H; have c23b0 : decide (0 ≤ x33_3) = true := decide_eq_true c23; clear c23; by_cases c24 : x33_3 < (y410.length : Int)
               ·rw [if_pos c24] at H; have c24b0 : decide (x33_3 < (y410.length : Int)) = true := decide_eq_true c24; clear c24; replace H := Option.bind_eq_some_iff.mp H; obtain ⟨t417, A250, H⟩ := H; replace H : (tree_at.l1 k3 (wrap64 (x7_3 + t417)) (rd l1 x14_1) l1 (l1.length : Int) x14_1 y410 (y410.length : Int) (wrap64 (x33_3 + 1)) x408000_1 x408001_1 x408002_1 x408003_1) = some (r1, r2, r3, r4, r5, r6) := H; have A25 := Aside0.mk A250; clear A250; have H' := Aside0.mk H; clear H; have p415 : 0 ≤ (x33_3 : Int) := of_decide_eq_true (by first | (with_reducible assumption) | assumption); have q415 : x33_3 < (y410.length : Int) := of_decide_eq_true (by first | (with_reducible assumption) | assumption); obtain ⟨ad415, A415_3, c415_3, e415, hx415_0, hx415_1, hx415_2, hx415_3, hl415_3, hi415_3⟩ := at_T26 (Kd.V_reads' HO_31.out).2.2 x33_3 p415 q415
                cases e415
                obtain ⟨ce415, hce415, hMe415, hcc415⟩ := Kd.V_get HO_31.out z26 x33_3 p415 (by first | exact q415 | exact of_decide_eq_true (by first | (with_reducible assumption) | assumption) | (have e_ := (Kd.V_reads' HO_31.out).1; omega)); obtain ⟨ua415_3, uc415_3, rfl, ul415_3, ge415_3⟩ := k26_openF hMe415; have hv415_3 := hcc415 3 _ rfl; rw [add_field _ _ 3 (by omega)] at hv415_3; replace hv415_3 := Option.some.inj (hv415_3.symm.trans hx415_3); injection hv415_3 with hva_ hvn_ hvc_; rw [hva_] at ge415_3; rw [hvc_] at ul415_3; have HL415_3 := Aside0.mk (show Kd.V k26 26 _ w.heap.size _ _ ((rd_T26 y410 x33_3).f2) from Kd.V_mk ul415_3 ge415_3); clear hva_ hvn_ hvc_ ge415_3 ul415_3 hcc415 hce415; have HR415_3 := Aside0.mk hi415_3; have HC415_3 := Aside0.mk hl415_3; clear hi415_3 hl415_3; replace p415 := eq_true p415; replace q415 := eq_true q415
                go_wp2_with (first | ((with_reducible refine gate_dst (N := 11) rfl ?_); (try (refine gate_guard (by rfl) ?_; dsimp only)); refine box_event ?hg (N := 11) ?hd (cs := #[.int .i64 0, .int .i64 0, .string (⟨#[]⟩ : ByteArray), .slice none 0 0]) (t := 26) ?hr ?_; (case hd => rfl); (case hg => rfl); (case hr => first | (go_simp; done) | (go_simp; rfl)); intro gb416 hg w26 hbox hb; have n0_ := Aside0.mk (Kd.V_below (Kd.V_elderB (by (with_reducible repeat (first | apply Kd.V_alloc | apply Kd.V_drewN | apply Kd.V_drew)); exact HO_31.out) gb416 (Nat.le_of_eq hg.symm)) hb); have n1_ := Aside0.mk (Kd.V_below (Kd.V_elderB (by (with_reducible repeat (first | apply Kd.V_alloc | apply Kd.V_drewN | apply Kd.V_drew)); exact HO_408003.out) gb416 (Nat.le_of_eq hg.symm)) hb); have n2_ := Aside0.mk (Kd.V_below (Kd.V_elderB (by (with_reducible repeat (first | apply Kd.V_alloc | apply Kd.V_drewN | apply Kd.V_drew)); exact HL415_3.out) gb416 (Nat.le_of_eq hg.symm)) hb); have n3_ := Aside0.mk (blk_below (g := gb407) (o := .cells #[.int .i64 x408000_1, .int .i64 x408001_1, .string x408002_1, .slice (some ad415) x408003_1.length co21] 26 (0, 0)) (Cl.blk BK407.out) hb); have n4_ := Aside0.mk (blk_below (g := gb408) (o := .cells #[.int .i64 x409000_1, .int .i64 x409001_1, .string x409002_1, .slice none 0 0] 26 (0, 0)) (Cl.blk BK408.out) hb); have n5_ := Aside0.mk (Kd.C_below (by repeat (first | (with_reducible exact HR415_3.out) | (with_reducible refine Kd.C_alloc ?_ _) | (with_reducible refine Kd.C_drewN ?_ _) | (with_reducible refine Kd.C_drew ?_) | exact HR415_3.out)) hb); have n6_ := Aside0.mk (below_step (by repeat (first | (with_reducible first | exact HB.out | apply below_alloc | apply pw_below_drewN | apply below_drew1 | refine below_set ?_ GE407.out | refine below_set ?_ GE408.out) | exact HB.out)) hb); have n7_ := Aside0.mk (hbox); have n8_ := Aside0.mk ((by rw [hg]; exact (below_size (by repeat (first | (with_reducible first | exact HB.out | apply below_alloc | apply pw_below_drewN | apply below_drew1 | refine below_set ?_ GE407.out | refine below_set ?_ GE408.out) | exact HB.out))) : w.heap.size ≤ gb416)); have n9_ := Aside0.mk ((by rw [hg]; exact (below_size (by repeat (first | (with_reducible first | exact HB.out | apply below_alloc | apply pw_below_drewN | apply below_drew1 | refine below_set ?_ GE407.out | refine below_set ?_ GE408.out) | exact HB.out))) : w.heap.size ≤ gb416)); have n10_ := Aside0.mk ((by rw [hg]; exact Nat.ne_of_lt (blk_lt (Cl.blk BK407.out)) : gb407 ≠ gb416)); have n11_ := Aside0.mk ((by rw [hg]; exact Nat.ne_of_gt (blk_lt (Cl.blk BK407.out)) : gb416 ≠ gb407)); have n12_ := Aside0.mk ((by rw [hg]; exact Nat.ne_of_lt (blk_lt (Cl.blk BK408.out)) : gb408 ≠ gb416)); have n13_ := Aside0.mk ((by rw [hg]; exact Nat.ne_of_gt (blk_lt (Cl.blk BK408.out)) : gb416 ≠ gb408)); clear HO_31 HO_408003 HL415_3 BK407 BK408 HR415_3 HB; have HO_31 := n0_; have HO_408003 := n1_; have HL415_3 := n2_; have BK407 := n3_; have BK408 := n4_; have HR415_3 := n5_; have HB := n6_; have BK416 := n7_; have GW416 := n8_; have GE416 := n9_; have NB407_416 := n10_; have NB416_407 := n11_; have NB408_416 := n12_; have NB416_408 := n13_; clear n0_ n1_ n2_ n3_ n4_ n5_ n6_ n7_ n8_ n9_ n10_ n11_ n12_ n13_ hb hbox hg; have hnb27 := NB416_407.out; have hnc27 := NB407_416.out; have hnb28 := NB416_408.out; have hnc28 := NB408_416.out; have hcz29_0 : w26.cell? ⟨gb416, 0, none⟩ = some (.int .i64 0) := (blk_cell BK416.out 0).trans rfl; have hcz29_1 : w26.cell? ⟨gb416, 1, none⟩ = some (.int .i64 0) := (blk_cell BK416.out 1).trans rfl; have hcz29_2 : w26.cell? ⟨gb416, 2, none⟩ = some (.string (⟨#[]⟩ : ByteArray)) := (blk_cell BK416.out 2).trans rfl; have hcz29_3 : w26.cell? ⟨gb416, 3, none⟩ = some (.slice none 0 0) := (blk_cell BK416.out 3).trans rfl; have hfz29_0 := blk_frozen BK416.out 0; have hfz29_1 := blk_frozen BK416.out 1; have hfz29_2 := blk_frozen BK416.out 2; have hfz29_3 := blk_frozen BK416.out 3) | ((with_reducible refine gate_callee (f := 55) rfl ?_); refine goesL_ (some 39) rfl rfl Try.func55 (by kernel_rfl) rfl #[.agg #[.int .i64 ((rd_T26 y410 x33_3).f0), .int .i64 ((rd_T26 y410 x33_3).f1.f0), .string ((rd_T26 y410 x33_3).f1.f1), .slice A415_3 ((rd_T26 y410 x33_3).f2).length c415_3]] rfl (by (try simp only [List.map_toArray, List.map_cons, List.map_nil]); first | done | rfl | (simp only [List.length_drop, List.length_take]; rfl)) ?_; (with_reducible refine (tree_width.calls k3 ((rd_T26 y410 x33_3).f0) ((rd_T26 y410 x33_3).f1.f0) ((rd_T26 y410 x33_3).f1.f1) _ _ ((rd_T26 y410 x33_3).f2) t417 _ ?side1 ?side2 A25.out).mono ?_); (case side1 => repeat (first | exact ((Kd.V_reads' (by (with_reducible repeat (first | apply Kd.V_alloc | apply Kd.V_drewN | apply Kd.V_drew)); exact (Kd.V_mono (Kd.V_far (p := ⟨gb416, 3, none⟩) (Kd.V_far (p := ⟨gb416, 2, none⟩) (Kd.V_far (p := ⟨gb416, 1, none⟩) (Kd.V_far (p := ⟨gb416, 0, none⟩) (Kd.V_mono HL415_3.out (fun k_ hk => (⟨hk, hk.2⟩ : _ ∧ k_ ≠ gb416))) (fun _ hk => hk.2) (.int .i64 ((rd_T26 y410 x33_3).f0))) (fun _ hk => hk.2) (.int .i64 ((rd_T26 y410 x33_3).f1.f0))) (fun _ hk => hk.2) (.string ((rd_T26 y410 x33_3).f1.f1))) (fun _ hk => hk.2) (.slice A415_3 ((rd_T26 y410 x33_3).f2).length c415_3)) (fun _ h_ => h_.1)))).2.2) | (with_reducible refine Kd.C_alloc ?_ _) | (with_reducible refine Kd.C_drewN ?_ _) | (with_reducible refine Kd.C_drew ?_))); (case side2 => exact HC415_3.out); rintro e w30 ⟨rfl, hb⟩; refine ⟨_, rfl, ?_⟩; have n0_ := Aside0.mk (Kd.V_below (by (with_reducible repeat (first | apply Kd.V_alloc | apply Kd.V_drewN | apply Kd.V_drew)); exact (Kd.V_mono (Kd.V_far (p := ⟨gb416, 3, none⟩) (Kd.V_far (p := ⟨gb416, 2, none⟩) (Kd.V_far (p := ⟨gb416, 1, none⟩) (Kd.V_far (p := ⟨gb416, 0, none⟩) (Kd.V_mono HO_31.out (fun k_ hk => (⟨hk, hk.2⟩ : _ ∧ k_ ≠ gb416))) (fun _ hk => hk.2) (.int .i64 ((rd_T26 y410 x33_3).f0))) (fun _ hk => hk.2) (.int .i64 ((rd_T26 y410 x33_3).f1.f0))) (fun _ hk => hk.2) (.string ((rd_T26 y410 x33_3).f1.f1))) (fun _ hk => hk.2) (.slice A415_3 ((rd_T26 y410 x33_3).f2).length c415_3)) (fun _ h_ => h_.1))) hb); have n1_ := Aside0.mk (Kd.V_below (by (with_reducible repeat (first | apply Kd.V_alloc | apply Kd.V_drewN | apply Kd.V_drew)); exact (Kd.V_mono (Kd.V_far (p := ⟨gb416, 3, none⟩) (Kd.V_far (p := ⟨gb416, 2, none⟩) (Kd.V_far (p := ⟨gb416, 1, none⟩) (Kd.V_far (p := ⟨gb416, 0, none⟩) (Kd.V_mono HO_408003.out (fun k_ hk => (⟨hk, hk.2⟩ : _ ∧ k_ ≠ gb416))) (fun _ hk => hk.2) (.int .i64 ((rd_T26 y410 x33_3).f0))) (fun _ hk => hk.2) (.int .i64 ((rd_T26 y410 x33_3).f1.f0))) (fun _ hk => hk.2) (.string ((rd_T26 y410 x33_3).f1.f1))) (fun _ hk => hk.2) (.slice A415_3 ((rd_T26 y410 x33_3).f2).length c415_3)) (fun _ h_ => h_.1))) hb); have n2_ := Aside0.mk (Kd.V_below (by (with_reducible repeat (first | apply Kd.V_alloc | apply Kd.V_drewN | apply Kd.V_drew)); exact (Kd.V_mono (Kd.V_far (p := ⟨gb416, 3, none⟩) (Kd.V_far (p := ⟨gb416, 2, none⟩) (Kd.V_far (p := ⟨gb416, 1, none⟩) (Kd.V_far (p := ⟨gb416, 0, none⟩) (Kd.V_mono HL415_3.out (fun k_ hk => (⟨hk, hk.2⟩ : _ ∧ k_ ≠ gb416))) (fun _ hk => hk.2) (.int .i64 ((rd_T26 y410 x33_3).f0))) (fun _ hk => hk.2) (.int .i64 ((rd_T26 y410 x33_3).f1.f0))) (fun _ hk => hk.2) (.string ((rd_T26 y410 x33_3).f1.f1))) (fun _ hk => hk.2) (.slice A415_3 ((rd_T26 y410 x33_3).f2).length c415_3)) (fun _ h_ => h_.1))) hb); have n3_ := Aside0.mk (blk_below (g := gb407) (o := .cells #[.int .i64 x408000_1, .int .i64 x408001_1, .string x408002_1, .slice (some ad415) x408003_1.length co21] 26 (0, 0)) (by (with_reducible repeat (first | refine blk_drewN ?_ _ | refine blk_drew ?_ | refine blk_alloc ?_ _)); refine blk_far ?_ NB407_416.out _; (with_reducible repeat (first | refine blk_drewN ?_ _ | refine blk_drew ?_ | refine blk_alloc ?_ _)); refine blk_far ?_ NB407_416.out _; (with_reducible repeat (first | refine blk_drewN ?_ _ | refine blk_drew ?_ | refine blk_alloc ?_ _)); refine blk_far ?_ NB407_416.out _; (with_reducible repeat (first | refine blk_drewN ?_ _ | refine blk_drew ?_ | refine blk_alloc ?_ _)); refine blk_far ?_ NB407_416.out _; (with_reducible repeat (first | refine blk_drewN ?_ _ | refine blk_drew ?_ | refine blk_alloc ?_ _)); exact BK407.out) hb); have n4_ := Aside0.mk (blk_below (g := gb408) (o := .cells #[.int .i64 x409000_1, .int .i64 x409001_1, .string x409002_1, .slice none 0 0] 26 (0, 0)) (by (with_reducible repeat (first | refine blk_drewN ?_ _ | refine blk_drew ?_ | refine blk_alloc ?_ _)); refine blk_far ?_ NB408_416.out _; (with_reducible repeat (first | refine blk_drewN ?_ _ | refine blk_drew ?_ | refine blk_alloc ?_ _)); refine blk_far ?_ NB408_416.out _; (with_reducible repeat (first | refine blk_drewN ?_ _ | refine blk_drew ?_ | refine blk_alloc ?_ _)); refine blk_far ?_ NB408_416.out _; (with_reducible repeat (first | refine blk_drewN ?_ _ | refine blk_drew ?_ | refine blk_alloc ?_ _)); refine blk_far ?_ NB408_416.out _; (with_reducible repeat (first | refine blk_drewN ?_ _ | refine blk_drew ?_ | refine blk_alloc ?_ _)); exact BK408.out) hb); have n5_ := Aside0.mk (Kd.C_below ((Kd.V_reads' (by (with_reducible repeat (first | apply Kd.V_alloc | apply Kd.V_drewN | apply Kd.V_drew)); exact (Kd.V_mono (Kd.V_far (p := ⟨gb416, 3, none⟩) (Kd.V_far (p := ⟨gb416, 2, none⟩) (Kd.V_far (p := ⟨gb416, 1, none⟩) (Kd.V_far (p := ⟨gb416, 0, none⟩) (Kd.V_mono HL415_3.out (fun k_ hk => (⟨hk, hk.2⟩ : _ ∧ k_ ≠ gb416))) (fun _ hk => hk.2) (.int .i64 ((rd_T26 y410 x33_3).f0))) (fun _ hk => hk.2) (.int .i64 ((rd_T26 y410 x33_3).f1.f0))) (fun _ hk => hk.2) (.string ((rd_T26 y410 x33_3).f1.f1))) (fun _ hk => hk.2) (.slice A415_3 ((rd_T26 y410 x33_3).f2).length c415_3)) (fun _ h_ => h_.1)))).2.2) hb); have n6_ := Aside0.mk (blk_below (g := gb416) (o := .cells #[.int .i64 ((rd_T26 y410 x33_3).f0), .int .i64 ((rd_T26 y410 x33_3).f1.f0), .string ((rd_T26 y410 x33_3).f1.f1), .slice A415_3 ((rd_T26 y410 x33_3).f2).length c415_3] 26 (0, 0)) (by (with_reducible repeat (first | refine blk_drewN ?_ _ | refine blk_drew ?_ | refine blk_alloc ?_ _)); refine blk_put (cs := #[.int .i64 ((rd_T26 y410 x33_3).f0), .int .i64 ((rd_T26 y410 x33_3).f1.f0), .string ((rd_T26 y410 x33_3).f1.f1), .slice none 0 0]) ?_ 3 _ rfl; (with_reducible repeat (first | refine blk_drewN ?_ _ | refine blk_drew ?_ | refine blk_alloc ?_ _)); refine blk_put (cs := #[.int .i64 ((rd_T26 y410 x33_3).f0), .int .i64 ((rd_T26 y410 x33_3).f1.f0), .string (⟨#[]⟩ : ByteArray), .slice none 0 0]) ?_ 2 _ rfl; (with_reducible repeat (first | refine blk_drewN ?_ _ | refine blk_drew ?_ | refine blk_alloc ?_ _)); refine blk_put (cs := #[.int .i64 ((rd_T26 y410 x33_3).f0), .int .i64 0, .string (⟨#[]⟩ : ByteArray), .slice none 0 0]) ?_ 1 _ rfl; (with_reducible repeat (first | refine blk_drewN ?_ _ | refine blk_drew ?_ | refine blk_alloc ?_ _)); refine blk_put (cs := #[.int .i64 0, .int .i64 0, .string (⟨#[]⟩ : ByteArray), .slice none 0 0]) ?_ 0 _ rfl; (with_reducible repeat (first | refine blk_drewN ?_ _ | refine blk_drew ?_ | refine blk_alloc ?_ _)); exact BK416.out) hb); have n7_ := Aside0.mk (below_step (by repeat (first | (with_reducible first | exact HB.out | apply below_alloc | apply pw_below_drewN | apply below_drew1 | refine below_set ?_ GE407.out | refine below_set ?_ GE408.out | refine below_set ?_ GE416.out) | exact HB.out)) hb); clear HO_31 HO_408003 HL415_3 BK407 BK408 HR415_3 BK416 HB; have HO_31 := n0_; have HO_408003 := n1_; have HL415_3 := n2_; have BK407 := n3_; have BK408 := n4_; have HR415_3 := n5_; have BK416 := n6_; have HB := n7_; clear n0_ n1_ n2_ n3_ n4_ n5_ n6_ n7_; (try clear hb); (try clear hb2); (try clear hk); (try clear hi)))
                go_roundg k3
                case measure => have := HK1.out; have := HJ7.out; have := HK3.out; omega
                case rel => exact ⟨(wrap64 (x7_3 + t417)), (wrap64 (x33_3 + 1)), (by first | rfl | (simp; done) | (simp [*]; done)), (by first | rfl | (simp; done) | (simp [*]; done)), H', ⟨by have := HK1.out; have := HJ7.out; have := HK3.out; omega⟩, ⟨by (with_reducible repeat (first | apply Kd.V_alloc | apply Kd.V_drewN | apply Kd.V_drew)); exact Kd.V_mono HO_31.out (fun _ hk => ⟨hk.1.1, ⟨hk.1.2.1, hk.1.2.2⟩⟩)⟩, ⟨by (with_reducible repeat (first | apply Kd.V_alloc | apply Kd.V_drewN | apply Kd.V_drew)); exact Kd.V_mono HO_408003.out (fun _ hk => ⟨hk.1.1, ⟨hk.1.2.1, hk.1.2.2⟩⟩)⟩, ⟨by (with_reducible repeat (first | refine blk_drewN ?_ _ | refine blk_drew ?_ | refine blk_alloc ?_ _)); exact BK407.out⟩, ⟨by (with_reducible repeat (first | refine blk_drewN ?_ _ | refine blk_drew ?_ | refine blk_alloc ?_ _)); exact BK408.out⟩, ⟨by repeat (first | (with_reducible first | exact HB.out | apply below_alloc | apply pw_below_drewN | apply below_drew1 | refine below_set ?_ GE407.out | refine below_set ?_ GE408.out | refine below_set ?_ GE416.out) | exact HB.out)⟩⟩
               ·rw [if_neg c24] at H; exact absurd H (by simp)
              ·rw [if_neg c23] at H; exact absurd H (by simp)
             ·rw [if_neg c22] at H; have c22b0 : decide (x33_3 < (y410.length : Int)) = false := decide_eq_false c22; clear c22; by_cases c31 : 0 ≤ (rd l1 x14_1)
              ·rw [if_pos c31] at H; have c31b0 : decide (0 ≤ (rd l1 x14_1)) = true := decide_eq_true c31; clear c31; by_cases c32 : (rd l1 x14_1) < (x408003_1.length : Int)
               ·rw [if_pos c32] at H; have c32b0 : decide ((rd l1 x14_1) < (x408003_1.length : Int)) = true := decide_eq_true c32; clear c32; have H' := Aside0.mk H; clear H; have hnb33 := NB407_408.out; have hnc33 := NB408_407.out; have hcz34_0 : wr.cell? ⟨gb407, 0, none⟩ = some (.int .i64 x408000_1) := (blk_cell BK407.out 0).trans rfl; have hcz34_1 : wr.cell? ⟨gb407, 1, none⟩ = some (.int .i64 x408001_1) := (blk_cell BK407.out 1).trans rfl; have hcz34_2 : wr.cell? ⟨gb407, 2, none⟩ = some (.string x408002_1) := (blk_cell BK407.out 2).trans rfl; have hcz34_3 : wr.cell? ⟨gb407, 3, none⟩ = some (.slice Ao21 x408003_1.length co21) := (blk_cell BK407.out 3).trans rfl; have hfz34_0 := blk_frozen BK407.out 0; have hfz34_1 := blk_frozen BK407.out 1; have hfz34_2 := blk_frozen BK407.out 2; have hfz34_3 := blk_frozen BK407.out 3; have p418 : 0 ≤ ((rd l1 x14_1) : Int) := of_decide_eq_true (by first | (with_reducible assumption) | assumption); have q418 : (rd l1 x14_1) < (x408003_1.length : Int) := of_decide_eq_true (by first | (with_reducible assumption) | assumption); obtain ⟨ad418, A418_3, c418_3, e418, hx418_0, hx418_1, hx418_2, hx418_3, hl418_3, hi418_3⟩ := at_T26 (Kd.V_reads' HO_408003.out).2.2 (rd l1 x14_1) p418 q418
                cases e418
                obtain ⟨ce418, hce418, hMe418, hcc418⟩ := Kd.V_get HO_408003.out z26 (rd l1 x14_1) p418 (by first | exact q418 | exact of_decide_eq_true (by first | (with_reducible assumption) | assumption) | (have e_ := (Kd.V_reads' HO_408003.out).1; omega)); obtain ⟨ua418_3, uc418_3, rfl, ul418_3, ge418_3⟩ := k26_openF hMe418; have hv418_3 := hcc418 3 _ rfl; rw [add_field _ _ 3 (by omega)] at hv418_3; replace hv418_3 := Option.some.inj (hv418_3.symm.trans hx418_3); injection hv418_3 with hva_ hvn_ hvc_; rw [hva_] at ge418_3; rw [hvc_] at ul418_3; have HL418_3 := Aside0.mk (show Kd.V k26 26 _ w.heap.size _ _ ((rd_T26 x408003_1 (rd l1 x14_1)).f2) from Kd.V_mk ul418_3 ge418_3); clear hva_ hvn_ hvc_ ge418_3 ul418_3 hcc418 hce418; have HR418_3 := Aside0.mk hi418_3; have HC418_3 := Aside0.mk hl418_3; clear hi418_3 hl418_3; replace p418 := eq_true p418; replace q418 := eq_true q418; go_wp2
                go_roundg k3
                case measure => have := HK1.out; have := HJ7.out; have := HK3.out; omega
                case rel => exact ⟨(x7_3), (wrap64 (x14_1 + 1)), ((rd_T26 x408003_1 (rd l1 x14_1)).f0), ((rd_T26 x408003_1 (rd l1 x14_1)).f1.f0), ((rd_T26 x408003_1 (rd l1 x14_1)).f1.f1), ((rd_T26 x408003_1 (rd l1 x14_1)).f2), (x409000_1), (x409001_1), (x409002_1), (.slice A418_3 ((rd_T26 x408003_1 (rd l1 x14_1)).f2).length c418_3), (by first | rfl | (simp; done) | (simp [*]; done)), (by first | rfl | (simp; done) | (simp [*]; done)), H', ⟨by have := HK1.out; have := HJ7.out; have := HK3.out; omega⟩, ⟨by (with_reducible repeat (first | apply Kd.V_alloc | apply Kd.V_drewN | apply Kd.V_drew)); exact Kd.V_mono (Kd.V_far (p := ⟨gb407, 3, none⟩) (Kd.V_far (p := ⟨gb407, 2, none⟩) (Kd.V_far (p := ⟨gb407, 1, none⟩) (Kd.V_far (p := ⟨gb407, 0, none⟩) (Kd.V_mono HL418_3.out (fun k_ hk => (⟨hk, hk.2.1⟩ : _ ∧ k_ ≠ gb407))) (fun _ hk => hk.2) (.int .i64 ((rd_T26 x408003_1 (rd l1 x14_1)).f0))) (fun _ hk => hk.2) (.int .i64 ((rd_T26 x408003_1 (rd l1 x14_1)).f1.f0))) (fun _ hk => hk.2) (.string ((rd_T26 x408003_1 (rd l1 x14_1)).f1.f1))) (fun _ hk => hk.2) (.slice A418_3 ((rd_T26 x408003_1 (rd l1 x14_1)).f2).length c418_3)) (fun _ hk => ⟨hk.1.1, ⟨hk.1.2.1, hk.1.2.2⟩⟩)⟩, ⟨by (with_reducible repeat (first | refine blk_drewN ?_ _ | refine blk_drew ?_ | refine blk_alloc ?_ _)); refine blk_put (cs := #[.int .i64 ((rd_T26 x408003_1 (rd l1 x14_1)).f0), .int .i64 ((rd_T26 x408003_1 (rd l1 x14_1)).f1.f0), .string ((rd_T26 x408003_1 (rd l1 x14_1)).f1.f1), .slice (some ad418) x408003_1.length co21]) ?_ 3 _ rfl; (with_reducible repeat (first | refine blk_drewN ?_ _ | refine blk_drew ?_ | refine blk_alloc ?_ _)); refine blk_put (cs := #[.int .i64 ((rd_T26 x408003_1 (rd l1 x14_1)).f0), .int .i64 ((rd_T26 x408003_1 (rd l1 x14_1)).f1.f0), .string x408002_1, .slice (some ad418) x408003_1.length co21]) ?_ 2 _ rfl; (with_reducible repeat (first | refine blk_drewN ?_ _ | refine blk_drew ?_ | refine blk_alloc ?_ _)); refine blk_put (cs := #[.int .i64 ((rd_T26 x408003_1 (rd l1 x14_1)).f0), .int .i64 x408001_1, .string x408002_1, .slice (some ad418) x408003_1.length co21]) ?_ 1 _ rfl; (with_reducible repeat (first | refine blk_drewN ?_ _ | refine blk_drew ?_ | refine blk_alloc ?_ _)); refine blk_put (cs := #[.int .i64 x408000_1, .int .i64 x408001_1, .string x408002_1, .slice (some ad418) x408003_1.length co21]) ?_ 0 _ rfl; (with_reducible repeat (first | refine blk_drewN ?_ _ | refine blk_drew ?_ | refine blk_alloc ?_ _)); exact BK407.out⟩, ⟨by (with_reducible repeat (first | refine blk_drewN ?_ _ | refine blk_drew ?_ | refine blk_alloc ?_ _)); refine blk_far ?_ NB408_407.out _; (with_reducible repeat (first | refine blk_drewN ?_ _ | refine blk_drew ?_ | refine blk_alloc ?_ _)); refine blk_far ?_ NB408_407.out _; (with_reducible repeat (first | refine blk_drewN ?_ _ | refine blk_drew ?_ | refine blk_alloc ?_ _)); refine blk_far ?_ NB408_407.out _; (with_reducible repeat (first | refine blk_drewN ?_ _ | refine blk_drew ?_ | refine blk_alloc ?_ _)); refine blk_far ?_ NB408_407.out _; (with_reducible repeat (first | refine blk_drewN ?_ _ | refine blk_drew ?_ | refine blk_alloc ?_ _)); exact BK408.out⟩, ⟨by repeat (first | (with_reducible first | exact HB.out | apply below_alloc | apply pw_below_drewN | apply below_drew1 | refine below_set ?_ GE407.out | refine below_set ?_ GE408.out) | exact HB.out)⟩⟩
               ·rw [if_neg c32] at H; exact absurd H (by simp)
              ·rw [if_neg c31] at H; exact absurd H (by simp)
          ·rw [if_neg c17] at H; exact absurd H (by simp)
         ·rw [if_neg c16] at H; exact absurd H (by simp)
     ·rw [if_neg c7] at H; exact absurd H (by simp)
    ·rw [if_neg c6] at H; exact absurd H (by simp)
   ·rw [if_neg c5] at H; have c5b0 : decide (x14_1 < (l1.length : Int)) = false := decide_eq_false c5; clear c5; simp only [Option.some.injEq, Prod.mk.injEq] at H; obtain ⟨rfl, rfl, rfl, rfl, rfl, rfl⟩ := H; have hnb35 := NB407_408.out; have hnc35 := NB408_407.out; have hcz36_0 : wr.cell? ⟨gb407, 0, none⟩ = some (.int .i64 x408000_1) := (blk_cell BK407.out 0).trans rfl; have hcz36_1 : wr.cell? ⟨gb407, 1, none⟩ = some (.int .i64 x408001_1) := (blk_cell BK407.out 1).trans rfl; have hcz36_2 : wr.cell? ⟨gb407, 2, none⟩ = some (.string x408002_1) := (blk_cell BK407.out 2).trans rfl; have hcz36_3 : wr.cell? ⟨gb407, 3, none⟩ = some (u408003) := (blk_cell BK407.out 3).trans rfl; have hfz36_0 := blk_frozen BK407.out 0; have hfz36_1 := blk_frozen BK407.out 1; have hfz36_2 := blk_frozen BK407.out 2; have hfz36_3 := blk_frozen BK407.out 3; have hcz37_0 : wr.cell? ⟨gb408, 0, none⟩ = some (.int .i64 x409000_1) := (blk_cell BK408.out 0).trans rfl; have hcz37_1 : wr.cell? ⟨gb408, 1, none⟩ = some (.int .i64 x409001_1) := (blk_cell BK408.out 1).trans rfl; have hcz37_2 : wr.cell? ⟨gb408, 2, none⟩ = some (.string x409002_1) := (blk_cell BK408.out 2).trans rfl; have hcz37_3 : wr.cell? ⟨gb408, 3, none⟩ = some (.slice none 0 0) := (blk_cell BK408.out 3).trans rfl; have hfz37_0 := blk_frozen BK408.out 0; have hfz37_1 := blk_frozen BK408.out 1; have hfz37_2 := blk_frozen BK408.out 2; have hfz37_3 := blk_frozen BK408.out 3; obtain ⟨Ao38, co38, eo38⟩ := Kd.V_slice HO_408003.out; subst eo38; go_wp2; refine bodyPost_ret (results_ctt rfl _ _ gb408 26 #[.int .i64 x408000_1, .int .i64 x408001_1, .string x408002_1, .slice Ao38 x408003_1.length co38] (0, 0) _ rfl (by (with_reducible repeat (first | refine blk_drewN ?_ _ | refine blk_drew ?_ | refine blk_alloc ?_ _)); refine blk_put (cs := #[.int .i64 x408000_1, .int .i64 x408001_1, .string x408002_1, .slice none 0 0]) ?_ 3 _ rfl; (with_reducible repeat (first | refine blk_drewN ?_ _ | refine blk_drew ?_ | refine blk_alloc ?_ _)); refine blk_put (cs := #[.int .i64 x408000_1, .int .i64 x408001_1, .string x409002_1, .slice none 0 0]) ?_ 2 _ rfl; (with_reducible repeat (first | refine blk_drewN ?_ _ | refine blk_drew ?_ | refine blk_alloc ?_ _)); refine blk_put (cs := #[.int .i64 x408000_1, .int .i64 x409001_1, .string x409002_1, .slice none 0 0]) ?_ 1 _ rfl; (with_reducible repeat (first | refine blk_drewN ?_ _ | refine blk_drew ?_ | refine blk_alloc ?_ _)); refine blk_put (cs := #[.int .i64 x409000_1, .int .i64 x409001_1, .string x409002_1, .slice none 0 0]) ?_ 0 _ rfl; (with_reducible repeat (first | refine blk_drewN ?_ _ | refine blk_drew ?_ | refine blk_alloc ?_ _)); exact BK408.out) Try.underlying26 rfl (by kernel_rfl)) rfl ?_; exact ⟨_, by first | rfl | (simp [errW_none, errW_some] <;> rfl) | (simp [*, errW_none, errW_some] <;> rfl), by (with_reducible repeat (first | apply Kd.V_alloc | apply Kd.V_drewN | apply Kd.V_drew)); exact Kd.V_mono (Kd.V_far (p := ⟨gb408, 3, none⟩) (Kd.V_far (p := ⟨gb408, 2, none⟩) (Kd.V_far (p := ⟨gb408, 1, none⟩) (Kd.V_far (p := ⟨gb408, 0, none⟩) (Kd.V_mono HO_408003.out (fun k_ hk => (⟨hk, hk.2.2⟩ : _ ∧ k_ ≠ gb408))) (fun _ hk => hk.2) (.int .i64 x408000_1)) (fun _ hk => hk.2) (.int .i64 x408001_1)) (fun _ hk => hk.2) (.string x408002_1)) (fun _ hk => hk.2) (.slice Ao38 x408003_1.length co38)) (fun _ hk => hk.1.1), by repeat (first | (with_reducible first | exact HB.out | apply below_alloc | apply pw_below_drewN | apply below_drew1 | refine below_set ?_ GE407.out | refine below_set ?_ GE408.out) | exact HB.out)⟩

end Go.Proofs.Ytnafnieocpkkhaa.P

namespace Go.Proofs.Ytnafnieocpkkhaa.P
open Go.RowKit Go.Proofs.YtnafnieocpkkhaaW.PrintWords Go.Proofs.YtnafnieocpkkhaaW.PrintLast Go.Proofs.YtnafnieocpkkhaaW.PrintMore
attribute [local go_sem] max2_int min2_int max_two min_two max_three min_three max_four min_four
set_option linter.unusedVariables false
set_option linter.unusedSimpArgs false

def tree_Clone.ok : Nat → S26 → Bool
 | 0, _ => false
 | m + 1, n => decide (n.f2.length < 1000000) && n.f2.all (tree_Clone.ok m)
def tree_Clone.f (k : Nat) (a0_0 : Int) (a0_1 : Int) (a0_2 : ByteArray) (l0_3 : List (S26)) : Option (Int × Int × ByteArray × List (S26)) := if tree_Clone.ok k ⟨a0_0, ⟨a0_1, a0_2⟩, l0_3⟩ = true then some (a0_0, a0_1, a0_2, l0_3) else none
/-- A row in which some Nodes are new already (true), and the others stand as in w0. -/
def tree_Clone.d (w0 : World) : Kd (Bool × S26) where
 sz := 4
 E := (k26).E
 K := fun w x cs => cs.length = 4 ∧ ∀ u ∈ cs, u.oneCell' = true
 M := fun w base ok x cs => (x.1 = true ∧ (k26).M w base ok x.2 cs) ∨ (x.1 = false ∧ (k26).K w0 x.2 cs)
 K_len := fun h => h.1
 K_one := fun h => h.2
 K_below := fun _ h => h
 K_of_M := by
  rintro w base ok x cs (⟨_, h⟩ | ⟨_, h⟩)
  ·exact ⟨(k26).K_len ((k26).K_of_M h), (k26).K_one ((k26).K_of_M h)⟩
  ·exact ⟨(k26).K_len h, (k26).K_one h⟩
 M_mono := by
  rintro w base ok ok' x cs h (⟨e, m⟩ | m)
  ·exact .inl ⟨e, (k26).M_mono h m⟩
  ·exact .inr m
 M_bound := by
  rintro w base ok x cs (⟨e, m⟩ | m)
  ·exact .inl ⟨e, (k26).M_bound m⟩
  ·exact .inr m
 M_move := by
  rintro w w1 base ok x cs h (⟨e, m⟩ | m)
  ·exact .inl ⟨e, (k26).M_move h m⟩
  ·exact .inr m
 M_lower := by
  rintro w base base' ok x cs h (⟨e, m⟩ | m)
  ·exact .inl ⟨e, (k26).M_lower h m⟩
  ·exact .inr m
theorem tree_Clone.done {w0 w : World} {base : Nat} {v : Value} {l : List (S26)} (h : Kd.R (tree_Clone.d w0) 26 w base (fun _ => True) v (l.map (fun x => (true, x)))) : Kd.R k26 26 w base (fun _ => True) v l := by
 obtain ⟨h0, inner, ho, hl, hr⟩ := h; rw [List.length_map] at ho hl; refine ⟨h0, inner, ho, hl, fun j p hj => ?_⟩; have := hr j (true, p) (by simp [hj])
 rcases this with ⟨_, m⟩ | ⟨e, _⟩
 ·exact m
 ·cases e
theorem tree_Clone.infoNode : (Try.prog.info? 26).map (fun i => (i.zero, i.size, i.bytes)) = some (some (.agg #[.int .i64 0, .int .i64 0, .string ⟨#[]⟩, .slice none 0 0]), 4, 56) := by kernel_rfl
theorem tree_Clone.lit {α : Type} (d : Kd α) {W : World} {base e : Nat} (hbase : base ≤ W.heap.size) : d.R e (W.alloc (.cells #[] e)) base (fun _ => True) (.slice (some ⟨W.heap.size, 0, none⟩) 0 0) [] := by
 refine ⟨fun _ _ => trivial, [], ?_, Reps.none _ _⟩; have h2 := World.ownsRow_lit (base := base) (e := e) (size := d.sz) W #[] 0 hbase (by unfold maxLen; omega) (by simp)
 simpa using h2
set_option maxHeartbeats 8000000 in
set_option maxRecDepth 100000 in
/-- slices.Clone of Nodes: the row is new, the Nodes stand as they stood. -/
theorem tree_Clone.row (w0 w : World) (l : List (S26)) (A : Option Addr) (c : Nat) (hl : l.length < 1000000) (hC : Kd.C k26 w0 A l.length l) (hc : l.length ≤ c) (hB : Below w0.heap.size w0 w) :
  Calls Try.prog 103 #[.slice A l.length c] w fun e w' => ∃ v', e = .returned v' ∧ Kd.R (tree_Clone.d w0) 26 w' w.heap.size (fun _ => True) v' (l.map (fun x => (false, x))) ∧ Below w.heap.size w w' := by
 have hu := Try.underlying24
 have hq := fun w n => Lib.run_eql_slice_nil (P := Try.prog) w 24 26 A n c 0 0 hu
 have HC := Aside0.mk hC; have HB := Aside0.mk hB; clear hC hB
 cases A with
 | none =>
  have h0 : l = [] := by
   rcases Nat.eq_zero_or_pos l.length with h0 | h0
   ·exact List.length_eq_zero_iff.mp h0
   ·obtain ⟨ad, e, _⟩ := HC.out.2.2 h0
    cases e
  subst h0; go_enter Try.func103, Try.ntmps103; go_wp2; go_ret; exact ⟨_, rfl, Kd.R_nil _ _ _ _ _, Below.refl _ _⟩
 | some ad =>
  have hE := Aside0.mk (tree_Clone.lit (tree_Clone.d w0) (W := w) (base := w.heap.size) (e := 26) (Nat.le_refl _)); have hA := Aside0.mk (below_alloc (Below.refl w.heap.size w) (.cells #[] 26))
  have hRR : Aside0 (ReadsRow (fun (x : Bool × S26) cs => x.1 = false ∧ (k26).K w0 x.2 cs) 4 (w.alloc (.cells #[] 26)) (some ad) l.length (l.map (fun x => (false, x)))) := ⟨by
   refine ⟨by simp, HC.out.2.1, fun hp => ?_⟩; obtain ⟨ad', e, hh⟩ := HC.out.2.2 hp; refine ⟨ad', e, fun j p hj => ?_⟩; rw [List.getElem?_map] at hj; obtain ⟨q, hq, rfl⟩ := Option.map_eq_some_iff.mp hj; obtain ⟨cs, h1, h2, h3⟩ := hh j q hq; refine ⟨cs, h1, ⟨rfl, h2⟩, fun i u hu2 => ?_⟩; have h4 := h3 i u hu2; have h5 := (HB.out.cell (World.block_lt_of_cell? w0 _ h4)).trans h4
   exact (hA.out.cell (World.block_lt_of_cell? w _ h5)).trans h5⟩
  clear HC; go_enter Try.func103, Try.ntmps103
  go_wp2_with (first | (at_builtin; refine Kd.R_append_rows (tree_Clone.d w0) (w0 := w) w.heap.size rfl (.tmp 5) (.tmp 6) 24 26 (.agg #[.int .i64 0, .int .i64 0, .string ⟨#[]⟩, .slice none 0 0]) 56 rfl Try.underlying24 tree_Clone.infoNode rfl (show 0 < 4 by decide) (by omega) (.slice (some ⟨w.heap.size, 0, none⟩) 0 0) [] (l.map (fun x => (false, x))) (some ad) l.length c (fun _ => True) (fun _ => False) rfl rfl hE.out hRR.out (fun x cs h => .inr h) (fun _ hk => hk.elim) (fun _ _ => trivial) hA.out hA.out.size (show (([] : List (Bool × S26)).length + l.length) * 56 ≤ 140737488355328 by rw [List.length_nil]; omega) ?_; intro v1 w1 hr hb hg hat; have HR := Aside0.mk hr; have HB2 := Aside0.mk hb; clear hr hb hg hat))
  go_ret; exact ⟨_, rfl, by simpa using HR.out, HB2.out⟩
theorem tree_Clone.one4 {a b : Int} {s : ByteArray} {A : Option Addr} {n c : Nat} : ∀ q ∈ ([.int .i64 a, .int .i64 b, .string s, .slice A n c] : List Value), q.oneCell' = true := by
 intro q hq; simp only [List.mem_cons, List.not_mem_nil, or_false] at hq
 rcases hq with rfl | rfl | rfl | rfl <;> rfl
def tree_Clone.mix (i : Nat) (l : List (S26)) : List (Bool × S26) := (l.take i).map (fun x => (true, x)) ++ (l.drop i).map (fun x => (false, x))
theorem tree_Clone.mix_len (i : Nat) (l : List (S26)) : (tree_Clone.mix i l).length = l.length := by simp [tree_Clone.mix]; omega
theorem tree_Clone.mix_get (i : Nat) (l : List (S26)) (h : i < l.length) (z : Bool × S26) : (tree_Clone.mix i l).getD i z = (false, l[i]) := by
 rw [List.getD_eq_getElem?_getD, tree_Clone.mix, List.getElem?_append_right (by simp; omega)]
 simp [Nat.min_eq_left (Nat.le_of_lt h), h]
theorem tree_Clone.mix_set (i : Nat) (l : List (S26)) (h : i < l.length) : (tree_Clone.mix i l).set i (true, l[i]) = tree_Clone.mix (i + 1) l := by
 apply List.ext_getElem?
 intro j; rw [List.getElem?_set, tree_Clone.mix_len]; unfold tree_Clone.mix; by_cases e : i = j
 ·subst e; rw [if_pos rfl, if_pos h, List.getElem?_append_left (by simp; omega)]
  simp [h]
 ·rw [if_neg e]
  rcases Nat.lt_or_ge j i with hj | hj
  ·rw [List.getElem?_append_left (by simp; omega), List.getElem?_append_left (by simp; omega)]
   simp [hj, Nat.lt_succ_of_lt hj]
  ·rw [List.getElem?_append_right (by simp; omega), List.getElem?_append_right (by simp; omega)]; simp only [List.length_map, List.length_take, List.getElem?_map, List.getElem?_drop]
   congr 2
   omega
def tree_Clone.Holds (w0 : World) (m : Nat) : Prop := ∀ (n : S26) (A : Option Addr) (cc : Nat) (w : World), tree_Clone.ok m n = true → n.f2.length ≤ cc → Kd.C k26 w0 A n.f2.length n.f2 → Below w0.heap.size w0 w →
 Calls Try.prog 78 #[.agg #[.int .i64 n.f0, .int .i64 n.f1.f0, .string n.f1.f1, .slice A n.f2.length cc]] w fun e w' => ∃ v : Value, e = .returned (.agg #[.int .i64 n.f0, .int .i64 n.f1.f0, .string n.f1.f1, v]) ∧ Kd.R k26 26 w' w.heap.size (fun _ => True) v n.f2 ∧ Below w.heap.size w w'
set_option maxHeartbeats 8000000 in
set_option maxRecDepth 100000 in
theorem tree_Clone.walk_ok (w0 : World) : ∀ m, tree_Clone.Holds w0 m := by
 have hu := Try.underlying26; intro m
 induction m with
 | zero =>
  intro n A cc w h
  simp [tree_Clone.ok] at h
 | succ m ih =>
  intro n A cc w h hcc hC hB; rw [tree_Clone.ok, Bool.and_eq_true] at h; have hlen : n.f2.length < 1000000 := of_decide_eq_true h.1; have HOK := Aside0.mk (List.all_eq_true.mp h.2); have IH := Aside0.mk ih; have hB2 := below_alloc (below_alloc hB (.cells #[.int .i64 n.f0, .int .i64 n.f1.f0, .string n.f1.f1, .slice A n.f2.length cc] 26)) (.cells #[.int .i64 0, .int .i64 0, .string ⟨#[]⟩, .slice none 0 0] 26); have HB2 := Aside0.mk hB2; have HW := Aside0.mk (below_alloc (below_alloc (Below.refl w.heap.size w) (.cells #[.int .i64 n.f0, .int .i64 n.f1.f0, .string n.f1.f1, .slice A n.f2.length cc] 26)) (.cells #[.int .i64 0, .int .i64 0, .string ⟨#[]⟩, .slice none 0 0] 26)); have H1 := Aside0.mk (blk_alloc (blk_new w (.cells #[.int .i64 n.f0, .int .i64 n.f1.f0, .string n.f1.f1, .slice A n.f2.length cc] 26)) (.cells #[.int .i64 0, .int .i64 0, .string ⟨#[]⟩, .slice none 0 0] 26))
  have H2 : Aside0 (((w.alloc (.cells #[.int .i64 n.f0, .int .i64 n.f1.f0, .string n.f1.f1, .slice A n.f2.length cc] 26)).alloc (.cells #[.int .i64 0, .int .i64 0, .string ⟨#[]⟩, .slice none 0 0] 26)).heap[w.heap.size + 1]? = some (.cells #[.int .i64 0, .int .i64 0, .string ⟨#[]⟩, .slice none 0 0] 26 (0, 0))) := ⟨by
   have := blk_new (w.alloc (.cells #[.int .i64 n.f0, .int .i64 n.f1.f0, .string n.f1.f1, .slice A n.f2.length cc] 26)) (.cells #[.int .i64 0, .int .i64 0, .string ⟨#[]⟩, .slice none 0 0] 26)
   simpa using this⟩
  have HS : Aside0 (((w.alloc (.cells #[.int .i64 n.f0, .int .i64 n.f1.f0, .string n.f1.f1, .slice A n.f2.length cc] 26)).alloc (.cells #[.int .i64 0, .int .i64 0, .string ⟨#[]⟩, .slice none 0 0] 26)).heap.size = w.heap.size + 2) := ⟨by simp⟩
  have ROW := Aside0.mk (tree_Clone.row w0 ((w.alloc (.cells #[.int .i64 n.f0, .int .i64 n.f1.f0, .string n.f1.f1, .slice A n.f2.length cc] 26)).alloc (.cells #[.int .i64 0, .int .i64 0, .string ⟨#[]⟩, .slice none 0 0] 26)) n.f2 A cc hlen hC hcc hB2); clear h ih hB hC hB2; go_enter Try.func78, Try.ntmps78
  go_wp2_with (go_at_call 103; refine ROW.out.mono ?_; rintro e w1 ⟨v1, rfl, hR, hb⟩; obtain ⟨A1, c1, hv, hc1, _⟩ := Kd.R_reads hR; rw [List.length_map] at hv hc1; subst hv; have HR1 := Aside0.mk hR; have HB1 := Aside0.mk hb; clear hR hb)
  go_loopg [11] n.f2.length (fun kq v11 w' => ∃ i : Nat, v11 = .int .i64 (i : Int) ∧ Aside0 (i + kq = n.f2.length) ∧ Aside0 (Kd.R (tree_Clone.d w0) 26 w' ((w.alloc (.cells #[.int .i64 n.f0, .int .i64 n.f1.f0, .string n.f1.f1, .slice A n.f2.length cc] 26)).alloc (.cells #[.int .i64 0, .int .i64 0, .string ⟨#[]⟩, .slice none 0 0] 26)).heap.size (fun _ => True) (.slice A1 n.f2.length c1) (tree_Clone.mix i n.f2)) ∧ Aside0 (Below ((w.alloc (.cells #[.int .i64 n.f0, .int .i64 n.f1.f0, .string n.f1.f1, .slice A n.f2.length cc] 26)).alloc (.cells #[.int .i64 0, .int .i64 0, .string ⟨#[]⟩, .slice none 0 0] 26)).heap.size ((w.alloc (.cells #[.int .i64 n.f0, .int .i64 n.f1.f0, .string n.f1.f1, .slice A n.f2.length cc] 26)).alloc (.cells #[.int .i64 0, .int .i64 0, .string ⟨#[]⟩, .slice none 0 0] 26)) w'))
  case atStart => exact ⟨0, rfl, ⟨by omega⟩, ⟨by simpa [tree_Clone.mix] using HR1.out⟩, HB1⟩
  case round =>
   clear HR1 HB1 ROW; obtain ⟨i, rfl, HK, HR, HB⟩ := hrel; by_cases hlt : i < n.f2.length
   ·have hd1 : decide ((i : Int) < (n.f2.length : Int)) = true := decide_eq_true (by omega); obtain ⟨g, cap, hv, hbg, hgl, _⟩ := Kd.R_form HR.out (by rw [tree_Clone.mix_len]; omega); rw [tree_Clone.mix_len] at hv; injection hv with hv1 _ hv2; subst hv1 hv2; obtain ⟨c, hcl, hM, hcc2⟩ := Kd.R_get HR.out (false, n) (i : Int) (by omega) (by omega); rw [Int.toNat_natCast, tree_Clone.mix_get i n.f2 hlt] at hM; rw [Int.toNat_natCast] at hcc2; have hokx := HOK.out _ (List.getElem_mem hlt); have hset := tree_Clone.mix_set i n.f2 hlt; generalize n.f2[i] = x at *
    have hK : (k26).K w0 x c := by
     rcases hM with ⟨e, _⟩ | ⟨_, hk⟩
     ·cases e
     ·exact hk
    obtain ⟨A3, c3, rfl, hl3, hC3⟩ := k26_open hK
    have had : ∀ j, (⟨g, 0, none⟩ : Addr).add (i * 4 + j) = ⟨g, i * 4 + j, none⟩ := fun j => by unfold Addr.add; simp; try omega
    have x0 : wr.cell? ⟨g, i * 4 + 0, none⟩ = some (.int .i64 x.f0) := (by have hq := hcc2 0 _ rfl; rw [show (tree_Clone.d w0).sz = 4 from rfl, had] at hq; exact hq)
    have x1 : wr.cell? ⟨g, i * 4 + 1, none⟩ = some (.int .i64 x.f1.f0) := (by have hq := hcc2 1 _ rfl; rw [show (tree_Clone.d w0).sz = 4 from rfl, had] at hq; exact hq)
    have x2 : wr.cell? ⟨g, i * 4 + 2, none⟩ = some (.string x.f1.f1) := (by have hq := hcc2 2 _ rfl; rw [show (tree_Clone.d w0).sz = 4 from rfl, had] at hq; exact hq)
    have x3 : wr.cell? ⟨g, i * 4 + 3, none⟩ = some (.slice A3 x.f2.length c3) := (by have hq := hcc2 3 _ rfl; rw [show (tree_Clone.d w0).sz = 4 from rfl, had] at hq; exact hq)
    have x00 : wr.cell? ⟨g, i * 4, none⟩ = some (.int .i64 x.f0) := x0; have HSET := Aside0.mk hset; have HCL := Aside0.mk (IH.out x A3 c3 (wr.alloc (.cells #[.int .i64 x.f0, .int .i64 x.f1.f0, .string x.f1.f1, .slice A3 x.f2.length c3] 26)) hokx hl3 hC3 (below_alloc (HB2.out.trans (HB.out.mono HB2.out.size)) _)); have HX := Aside0.mk (And.intro x0 (And.intro x1 (And.intro x2 x3))); have HXA := Aside0.mk (below_alloc (Below.refl wr.heap.size wr) (.cells #[.int .i64 x.f0, .int .i64 x.f1.f0, .string x.f1.f1, .slice A3 x.f2.length c3] 26)); clear hM hcc2 hokx hset hK hC3 hl3 had hcl
    cases gk with
    | zero => exact absurd hlt (by have := HK.out; omega)
    | succ kq' =>
    go_wp2_with fail; refine HCL.out.mono ?_; rintro e w5 ⟨v5, rfl, hR5, hb5⟩; obtain ⟨A5, c5, hv5, _, _⟩ := Kd.R_reads hR5; subst hv5; have HBW := Aside0.mk (HXA.out.trans (hb5.mono HXA.out.size)); have HRW := Aside0.mk (Kd.R_below HR.out HBW.out); have hbs := HB.out.size; have HB5 := Aside0.mk (HB.out.trans (HBW.out.mono hbs)); have HM5 := Aside0.mk (Kd.R_mono (ok' := fun k => k ≠ g) (Kd.R_lower (Kd.R_bound hR5) (Nat.le_trans hbs HXA.out.size)) (fun k hk e => by have h1 := hk.2.1; have h2 := HXA.out.size; subst e; simp at h1; omega)); obtain ⟨e0, e1, e2, e3⟩ := HX.out; have y0 := (HBW.out.cell (p := ⟨g, i * 4 + 0, none⟩) hgl).trans e0; have y1 := (HBW.out.cell (p := ⟨g, i * 4 + 1, none⟩) hgl).trans e1; have y2 := (HBW.out.cell (p := ⟨g, i * 4 + 2, none⟩) hgl).trans e2; have y3 := (HBW.out.cell (p := ⟨g, i * 4 + 3, none⟩) hgl).trans e3; have HY := Aside0.mk (And.intro y0 (And.intro y1 (And.intro y2 y3))); clear hR5 hb5 e0 e1 e2 e3 x0 x1 x2 x3 x00 y0 y1 y2 y3 HR
    have hcells : Aside0 (∀ (j : Nat) (u : Value), ([.int .i64 x.f0, .int .i64 x.f1.f0, .string x.f1.f1, .slice A3 x.f2.length c3] : List Value)[j]? = some u → w5.cell? ⟨g, i * 4 + j, none⟩ = some u) := ⟨fun j u hj => by
     obtain ⟨y0, y1, y2, y3⟩ := HY.out
     match j, hj with
     | 0, hj => simp only [List.getElem?_cons_zero, Option.some.injEq] at hj; subst hj; exact y0
     | 1, hj => simp only [List.getElem?_cons_succ, List.getElem?_cons_zero, Option.some.injEq] at hj; subst hj; exact y1
     | 2, hj => simp only [List.getElem?_cons_succ, List.getElem?_cons_zero, Option.some.injEq] at hj; subst hj; exact y2
     | 3, hj => simp only [List.getElem?_cons_succ, List.getElem?_cons_zero, Option.some.injEq] at hj; subst hj; exact y3⟩
    go_wp2_with (first | (refine Kd.R_store (tree_Clone.d w0) (w0 := ((w.alloc (.cells #[.int .i64 n.f0, .int .i64 n.f1.f0, .string n.f1.f1, .slice A n.f2.length cc] 26)).alloc (.cells #[.int .i64 0, .int .i64 0, .string ⟨#[]⟩, .slice none 0 0] 26))) ((w.alloc (.cells #[.int .i64 n.f0, .int .i64 n.f1.f0, .string n.f1.f1, .slice A n.f2.length cc] 26)).alloc (.cells #[.int .i64 0, .int .i64 0, .string ⟨#[]⟩, .slice none 0 0] 26)).heap.size rfl rfl 26 (.tmp 20) (.tmp 19) rfl 26 (g := g) (i : Int) 0 (tree_Clone.mix i n.f2) (true, x) (.agg #[.int .i64 x.f0, .int .i64 x.f1.f0, .string x.f1.f1, .slice A5 x.f2.length c5]) [.int .i64 x.f0, .int .i64 x.f1.f0, .string x.f1.f1, .slice A5 x.f2.length c5] [.int .i64 x.f0, .int .i64 x.f1.f0, .string x.f1.f1, .slice A3 x.f2.length c3] (fun _ => True) (fun k => k ≠ g) rfl rfl rfl rfl (by kernel_rfl) tree_Clone.one4 HRW.out (by omega) (by omega) rfl hcells.out (show 4 ≤ 4 from Nat.le_refl 4) (.inl ⟨rfl, k26_mkM w5 _ _ x HM5.out⟩) (fun k hk => ⟨trivial, hk⟩) HB5.out ?_; intro w6 hR6 hb6 hg6; have HR6 := Aside0.mk hR6; have HB6 := Aside0.mk hb6; clear hR6 hb6 hg6))
    go_roundg kq'
    case measure => omega
    case rel => exact ⟨i + 1, by go_num, ⟨by have := HK.out; omega⟩, ⟨by have hq := HR6.out; rw [Int.toNat_natCast, HSET.out] at hq; exact hq⟩, HB6⟩
   ·have hin : i = n.f2.length := (by have := HK.out; omega)
    have hd1 : decide ((i : Int) < (n.f2.length : Int)) = false := decide_eq_false (by omega); have hR := HR.out; rw [hin] at hR; have HRD := Aside0.mk (tree_Clone.done (w0 := w0) (l := n.f2) (by simpa [tree_Clone.mix] using hR)); have H1w := Aside0.mk (blk_below H1.out HB.out); have H2w := Aside0.mk (blk_below H2.out HB.out); clear hin hR HR; have a0 : wr.cell? ⟨w.heap.size, 0, none⟩ = some (.int .i64 n.f0) := Lib.cell_of_heap H1w.out 0; have b0 : wr.cell? ⟨w.heap.size + 1, 0, none⟩ = some (.int .i64 0) := Lib.cell_of_heap H2w.out 0; have d0 := Lib.frozen_of_heap H1w.out 0; have f0 := Lib.frozen_of_heap H2w.out 0; have a1 : wr.cell? ⟨w.heap.size, 1, none⟩ = some (.int .i64 n.f1.f0) := Lib.cell_of_heap H1w.out 1; have b1 : wr.cell? ⟨w.heap.size + 1, 1, none⟩ = some (.int .i64 0) := Lib.cell_of_heap H2w.out 1; have d1 := Lib.frozen_of_heap H1w.out 1; have f1 := Lib.frozen_of_heap H2w.out 1; have a2 : wr.cell? ⟨w.heap.size, 2, none⟩ = some (.string n.f1.f1) := Lib.cell_of_heap H1w.out 2; have b2 : wr.cell? ⟨w.heap.size + 1, 2, none⟩ = some (.string ⟨#[]⟩) := Lib.cell_of_heap H2w.out 2; have d2 := Lib.frozen_of_heap H1w.out 2; have f2 := Lib.frozen_of_heap H2w.out 2; have a3 : wr.cell? ⟨w.heap.size, 3, none⟩ = some (.slice A n.f2.length cc) := Lib.cell_of_heap H1w.out 3; have b3 : wr.cell? ⟨w.heap.size + 1, 3, none⟩ = some (.slice none 0 0) := Lib.cell_of_heap H2w.out 3; have d3 := Lib.frozen_of_heap H1w.out 3; have f3 := Lib.frozen_of_heap H2w.out 3; go_wp2_with fail
    have hok : ∀ k, w.heap.size + 1 + 1 ≤ k → k ≠ w.heap.size := fun k hk => by omega
    have hok2 : ∀ k, w.heap.size + 1 + 1 ≤ k → k ≠ w.heap.size + 1 := fun k hk => by omega
    refine bodyPost_ret (results_cell_row rfl _ _ (w.heap.size + 1) 26 #[.int .i64 n.f0, .int .i64 n.f1.f0, .string n.f1.f1, (.slice A1 n.f2.length c1)] (0, 0) _ rfl (by refine blk_put (cs := #[.int .i64 n.f0, .int .i64 n.f1.f0, .string n.f1.f1, .slice none 0 0]) ?_ 3 _ rfl; refine blk_put (cs := #[.int .i64 n.f0, .int .i64 n.f1.f0, .string ⟨#[]⟩, .slice none 0 0]) ?_ 2 _ rfl; refine blk_put (cs := #[.int .i64 n.f0, .int .i64 0, .string ⟨#[]⟩, .slice none 0 0]) ?_ 1 _ rfl; refine blk_put (cs := #[.int .i64 0, .int .i64 0, .string ⟨#[]⟩, .slice none 0 0]) ?_ 0 _ rfl; exact (Below.heap_setCell wr ⟨w.heap.size, 3, none⟩ _ (w.heap.size + 1) (by simp)).trans H2w.out) Try.underlying26 rfl (by kernel_rfl)) rfl ?_; refine ⟨_, rfl, Kd.R_mono (Kd.R_lower (Kd.R_far (p := ⟨w.heap.size + 1, 3, none⟩) (Kd.R_far (p := ⟨w.heap.size + 1, 2, none⟩) (Kd.R_far (p := ⟨w.heap.size + 1, 1, none⟩) (Kd.R_far (p := ⟨w.heap.size + 1, 0, none⟩) (Kd.R_far (p := ⟨w.heap.size, 3, none⟩) (Kd.R_mono (Kd.R_bound HRD.out) (fun k hk => hk.2.1)) hok _) hok2 _) hok2 _) hok2 _) hok2 _) (by omega)) (fun _ _ => trivial), ?_⟩; exact below_set (below_set (below_set (below_set (below_set (HW.out.trans (HB.out.mono HW.out.size)) (Nat.le_refl _)) (by omega)) (by omega)) (by omega)) (by omega)
theorem tree_Clone.calls (k : Nat) (a0_0 : Int) (a0_1 : Int) (a0_2 : ByteArray) (A0_3 : Option Addr) (c0_3 : Nat) (l0_3 : List (S26)) (r1 : Int) (r2 : Int) (r3 : ByteArray) (r4 : List (S26)) (w : World) (hr0_3 : Kd.C k26 w A0_3 l0_3.length l0_3) (hc0_3 : l0_3.length ≤ c0_3) (h : tree_Clone.f k a0_0 a0_1 a0_2 l0_3 = some (r1, r2, r3, r4)) :
  Calls Try.prog 78 #[.agg #[.int .i64 a0_0, .int .i64 a0_1, .string a0_2, .slice A0_3 l0_3.length c0_3]] w fun e w' => ∃ v3_ : Value, e = .returned (.agg #[.int .i64 r1, .int .i64 r2, .string r3, v3_]) ∧ Kd.R k26 26 w' w.heap.size (fun _ => True) v3_ r4 ∧ Below w.heap.size w w' := by
 unfold tree_Clone.f at h
 split at h
 ·rename_i hk
  simp only [Option.some.injEq, Prod.mk.injEq] at h; obtain ⟨rfl, rfl, rfl, rfl⟩ := h; exact tree_Clone.walk_ok w k ⟨a0_0, ⟨a0_1, a0_2⟩, l0_3⟩ A0_3 c0_3 w hk hc0_3 hr0_3 (Below.refl _ _)
 ·cases h

end Go.Proofs.Ytnafnieocpkkhaa.P

set_option linter.unusedVariables false
set_option linter.unusedSimpArgs false
namespace Go.Proofs.Ytnafnieocpkkhaa.P
open Go.RowKit Go.Proofs.YtnafnieocpkkhaaW.PrintWords Go.Proofs.YtnafnieocpkkhaaW.PrintLast Go.Proofs.YtnafnieocpkkhaaW.PrintMore
theorem Nd.eta (x : Nd) : (⟨x.f0, ⟨x.f1.f0, x.f1.f1⟩, x.f2⟩ : Nd) = x := by cases x; rfl
/-! ### positions -/
def wds (l : List Nd) : Nat := (l.map wd).sum
theorem wds_take_succ {l : List Nd} {i : Nat} {x : Nd} (h : l[i]? = some x) : wds (l.take (i + 1)) = wds (l.take i) + wd x := by
 unfold wds; rw [List.take_add_one, h, List.map_append, List.sum_append]
 simp
theorem wds_take_le (l : List Nd) (i : Nat) : wds (l.take i) ≤ wds l := by
 unfold wds
 conv => rhs; rw [← List.take_append_drop i l, List.map_append, List.sum_append]
 omega
theorem wds_split {l : List Nd} {i : Nat} {x : Nd} (h : l[i]? = some x) : wds (l.take i) + wd x ≤ wds l := by
 rw [← wds_take_succ h]; exact wds_take_le l _
theorem wd_wds (n : Nd) : wd n = n.f1.f1.size + wds n.f2 := wd_eq n
/-- What is at a position, and where it begins. -/
def atp : List Int → Nd → Option (Nd × Nat)
 | [], n => some (n, 0)
 | i :: p, n => if 0 ≤ i then (n.f2[i.toNat]?).bind fun x => (atp p x).map fun y => (y.1, wds (n.f2.take i.toNat) + y.2) else none
theorem atp_fo : ∀ {p : List Int} {n x : Nd} {o m : Nat}, fo m n = true → atp p n = some (x, o) → ∃ m', fo m' x = true := by
 intro p
 induction p with
 | nil =>
  intro n x o m hs h; simp only [atp, Option.some.injEq, Prod.mk.injEq] at h; obtain ⟨rfl, rfl⟩ := h; exact ⟨m, hs⟩
 | cons i p ih =>
  intro n x o m hs h; rw [atp] at h
  split at h
  ·cases e : n.f2[i.toNat]? with
   | none => rw [e] at h; cases h
   | some y =>
    rw [e, Option.bind_some] at h
    cases e2 : atp p y with
    | none => rw [e2] at h; cases h
    | some z =>
     rw [e2] at h; simp only [Option.map_some, Option.some.injEq, Prod.mk.injEq] at h; obtain ⟨rfl, rfl⟩ := h; have hy := List.mem_of_getElem? e
     cases m with
     | zero => cases hs
     | succ m =>
      rw [fo] at hs
      split at hs
      ·rw [Bool.and_eq_true, decide_eq_true_eq] at hs; rw [List.eq_nil_of_length_eq_zero hs.1] at hy
       cases hy
      ·rw [Bool.and_eq_true] at hs; exact ih (List.all_eq_true.1 hs.2 y hy) e2
  ·cases h
theorem rd_drop {l : List Int} {i : Nat} {e : Int} {r : List Int} (h : l.drop i = e :: r) : rd l (i : Int) = e := by
 have h1 : l[i]? = some e := by
  have := congrArg (fun x : List Int => x[0]?) h
  simpa [List.getElem?_drop] using this
 simp [rd, List.getD_eq_getElem?_getD, h1]
theorem rd_at {l : List Nd} {i : Nat} {e : Nd} (h : l[i]? = some e) : rd_T26 l (i : Int) = e := by
 simp [rd_T26, List.getD_eq_getElem?_getD, h]
theorem at_in (q : List Int) (i : Int) (j : Nat) (n : Nd) (h0 : 0 ≤ i) (hi : i.toNat < n.f2.length) (hs : sm n) (l : List Nd) (hl : l = n.f2.take i.toNat) (x : Nd) (hx : n.f2[i.toNat]? = some x) {R : Int × Int × ByteArray × List Nd × Int × Bool} (hq : j < q.length) (hqz : q.length ≤ 1000000000) (off : Nat)
  (H : Ev (fun k => tree_at.l0 k ((off + wds l : Nat) : Int) q (q.length : Int) ((j + 1 : Nat) : Int) x.f0 x.f1.f0 x.f1.f1 x.f2) R) (ho : off + wds l ≤ 1000000000) : ∀ (r : List Nd) (a : Nat), l.drop a = r →
  Ev (fun k => tree_at.l1 k ((off + wds (l.take a) : Nat) : Int) i q (q.length : Int) (j : Int) l (l.length : Int) (a : Int) n.f0 n.f1.f0 n.f1.f1 n.f2) R := by
 have hll : l.length ≤ 1000000 := (by rw [hl, List.length_take]; have := hs.len; omega)
 intro r
 induction r with
 | nil =>
  intro a hd; have hle := le_of_nil hd
  have e0 : rd_T26 n.f2 i = x := (by have := rd_at hx; rwa [Int.toNat_of_nonneg h0] at this)
  refine Ev.shift ?_; simp only [tree_at.l1]; rw [e0, List.take_of_length_le hle]; refine Ev.neg (by omega) (Ev.pos h0 (Ev.pos (by omega) ?_)); rw [w64 (n := (j : Int) + 1) (by omega) (by omega)]
  exact_mod_cast H
 | cons e r ih =>
  intro a hd; have hlt := lt_of_drop hd
  have h1 : l[a]? = some e := by
   have := congrArg (fun x : List Nd => x[0]?) hd
   simpa [List.getElem?_drop] using this
  have hm : e ∈ n.f2 := List.mem_of_mem_take (by rw [← hl]; exact List.mem_of_getElem? h1); have hse := hs.kid hm; have hw := wds_split h1; have hw2 := wds_take_succ h1; refine Ev.shift ?_; simp only [tree_at.l1]; rw [rd_nd hd]; refine Ev.pos (by omega) (Ev.pos (by omega) (Ev.pos (by omega) (Ev.bind (width_ev e hse.1 hse.2) ?_))); rw [w64 (n := ((off + wds (l.take a) : Nat) : Int) + (wd e : Int)) (by omega) (by omega), w64 (n := (a : Int) + 1) (by omega) (by omega)]; have := ih (a + 1) (drop_next hd); rw [hw2, ← Nat.add_assoc] at this
  exact_mod_cast this
def ans : Nat → Option (Nd × Nat) → Int × Int × ByteArray × List Nd × Int × Bool
 | off, some (x, o) => (x.f0, x.f1.f0, x.f1.f1, x.f2, ((off + o : Nat) : Int), true)
 | _, none => (0, 0, ⟨#[]⟩, [], 0, false)
theorem at_loop (q : List Int) (hqz : q.length ≤ 1000000000) : ∀ (p : List Int) (j : Nat) (n : Nd) (off : Nat), q.drop j = p → sm n → off + wd n ≤ 1000000000 →
  Ev (fun k => tree_at.l0 k (off : Int) q (q.length : Int) (j : Int) n.f0 n.f1.f0 n.f1.f1 n.f2) (ans off (atp p n)) := by
 intro p
 induction p with
 | nil =>
  intro j n off hd hs ho; have := le_of_nil hd; refine Ev.shift ?_; simp only [tree_at.l0]; refine Ev.neg (by omega) ?_; exact Ev.now _
 | cons i p ih =>
  intro j n off hd hs ho; have hlt := lt_of_drop hd; refine Ev.shift ?_; simp only [tree_at.l0]; rw [rd_drop hd]; refine Ev.pos (by omega) (Ev.pos (by omega) (Ev.pos (by omega) ?_)); rw [atp]; by_cases h0 : i < 0
  ·rw [if_neg (by omega)]; refine Ev.pos h0 (Ev.shift ?_); simp only [tree_at.j1]; exact Ev.pos trivial (Ev.now _)
  ·rw [if_pos (by omega)]; refine Ev.neg h0 (Ev.shift ?_); simp only [tree_at.j1]; by_cases h1 : i.toNat < n.f2.length
   ·have hx : n.f2[i.toNat]? = some (n.f2[i.toNat]'h1) := List.getElem?_eq_getElem h1; generalize n.f2[i.toNat]'h1 = x at hx; rw [hx, Option.bind_some]; have hsx := hs.kid (List.mem_of_getElem? hx); have hw := wds_split hx; have hwn := wd_wds n; refine Ev.neg (by rw [decide_eq_false (by omega)]; decide) (Ev.pos (by omega) (Ev.pos (by omega) ?_)); refine Ev.bind1 rfl ?_; have H := ih (j + 1) x (off + wds (n.f2.take i.toNat)) (drop_next hd) hsx (by omega)
    have e2 : ans (off + wds (n.f2.take i.toNat)) (atp p x) = ans off ((atp p x).map fun y => (y.1, wds (n.f2.take i.toNat) + y.2)) := by
     cases atp p x with
     | none => rfl
     | some z => show (_, _, _, _, _, _) = (_, _, _, _, _, _); rw [Nat.add_assoc]
    rw [e2] at H; have := at_in q i j n (by omega) h1 hs (n.f2.take i.toNat) rfl x hx hlt hqz off H (by omega) _ 0 rfl
    simpa [wds] using this
   ·rw [List.getElem?_eq_none (by omega)]; refine Ev.pos (decide_eq_true (by omega)) ?_; exact Ev.now _
theorem at_ev (n : Nd) (p : List Int) (hs : sm n) (hp : p.length ≤ 1000000000) : Ev (fun k => tree_at.f k n.f0 n.f1.f0 n.f1.f1 n.f2 p) (ans 0 (atp p n)) := by
 unfold tree_at.f; exact at_loop p hp p 0 n 0 rfl hs (by have := hs.1; omega)
theorem ok_ev : ∀ n : Nd, sm n → ∃ K, ∀ k, K ≤ k → tree_Clone.ok k n = true := by
 refine Nd.ind ?_; intro n ih hs
 have : ∀ l : List Nd, (∀ x ∈ l, x ∈ n.f2) → ∃ K, ∀ k, K ≤ k → l.all (tree_Clone.ok k) = true := by
  intro l
  induction l with
  | nil => intro _; exact ⟨0, fun _ _ => rfl⟩
  | cons x r ihl =>
   intro h; obtain ⟨K1, h1⟩ := ih x (h x List.mem_cons_self) (hs.kid (h x List.mem_cons_self)); obtain ⟨K2, h2⟩ := ihl (fun y hy => h y (List.mem_cons_of_mem _ hy)); exact ⟨max K1 K2, fun k hk => by rw [List.all_cons, h1 k (by omega), h2 k (by omega)]; rfl⟩
 obtain ⟨K, hK⟩ := this n.f2 (fun _ h => h); refine ⟨K + 1, fun k hk => ?_⟩
 obtain ⟨k, rfl⟩ : ∃ j, k = j + 1 := ⟨k - 1, by omega⟩
 rw [tree_Clone.ok, hK k (by omega), decide_eq_true hs.len]; rfl
theorem clone_ev (n : Nd) (hs : sm n) : Ev (fun k => tree_Clone.f k n.f0 n.f1.f0 n.f1.f1 n.f2) (n.f0, n.f1.f0, n.f1.f1, n.f2) := by
 obtain ⟨K, hK⟩ := ok_ev n hs; refine ⟨K, fun k hk => ?_⟩
 show tree_Clone.f k n.f0 n.f1.f0 n.f1.f1 n.f2 = _
 unfold tree_Clone.f; rw [Nd.eta, if_pos (hK k hk)]
end Go.Proofs.Ytnafnieocpkkhaa.P

namespace Go.Proofs.Ytnafnieocpkkhaa.P
open Go.RowKit Go.Proofs.YtnafnieocpkkhaaW.PrintWords Go.Proofs.YtnafnieocpkkhaaW.PrintLast Go.Proofs.YtnafnieocpkkhaaW.PrintMore
attribute [local go_sem] max2_int min2_int max_two min_two max_three min_three max_four min_four
set_option linter.unusedVariables false
set_option linter.unusedSimpArgs false

/-- The first kid, from one on, in which an offset is: which one, the kid, the offset in it. -/
def tree_Find.scan (k : Nat) : List (S26) → Int → Nat → Option (Nat × S26 × Int)
 | [], _, _ => none
 | x :: r, off, i => (tree_width.f k x.f0 x.f1.f0 x.f1.f1 x.f2).bind fun w => if off < w then some (i, x, off) else tree_Find.scan k r (wrap64 (off - w)) (i + 1)
def tree_Find.go (k : Nat) : Nat → S26 → Int → List Int → Option (List Int)
 | 0, _, _, _ => none
 | m + 1, n, off, acc => if n.f0 = 1 then some acc else (tree_Find.scan k n.f2 off 0).bind fun x => if acc.length < 17592186044416 then tree_Find.go k m x.2.1 x.2.2 (acc ++ [(x.1 : Int)]) else none
def tree_Find.f (k : Nat) (a0_0 : Int) (a0_1 : Int) (a0_2 : ByteArray) (l0_3 : List (S26)) (a1 : Int) : Option (List Int × Int) :=
 (tree_IsFormed.f k a0_0 a0_1 a0_2 l0_3).bind fun b => if b = true then
  (tree_width.f k a0_0 a0_1 a0_2 l0_3).bind fun w => if a1 < 0 then some ([], 2) else if a1 > w then some ([], 2) else if w = 0 then some ([], 5) else (tree_Find.go k k ⟨a0_0, ⟨a0_1, a0_2⟩, l0_3⟩ (mn a1 (wrap64 (w - 1))) []).bind fun l => some (l, 0)
 else some ([], 4)
theorem tree_Find.infoInt : (Try.prog.info? 3).map (fun i => (i.zero, i.size, i.bytes)) = some (some (.int .i64 0), 1, 8) := by kernel_rfl
attribute [local go_sem] max2_int min2_int max_two min_two max_three min_three max_four min_four
set_option maxHeartbeats 8000000 in
set_option maxRecDepth 100000 in
theorem tree_Find.calls (k : Nat) (a0_0 : Int) (a0_1 : Int) (a0_2 : ByteArray) (A0_3 : Option Addr) (c0_3 : Nat) (l0_3 : List (S26)) (a1 : Int) (r1 : List Int) (r2 : Int) (w : World) (hr0_3 : Kd.C k26 w A0_3 l0_3.length l0_3) (hc0_3 : l0_3.length ≤ c0_3) (h : tree_Find.f k a0_0 a0_1 a0_2 l0_3 a1 = some (r1, r2)) :
  Calls Try.prog 16 #[.agg #[.int .i64 a0_0, .int .i64 a0_1, .string a0_2, .slice A0_3 l0_3.length c0_3], .int .i64 a1] w fun e w' => ∃ v0_ : Value, e = .returned (.tuple #[v0_, .int .i64 r2]) ∧ Kd.R (Kd.int .i64) 3 w' w.heap.size (fun _ => True) v0_ r1 ∧ Below w.heap.size w w' := by
 have hu := Try.underlying26; unfold tree_Find.f at h; obtain ⟨b, hb, h⟩ := Option.bind_eq_some_iff.mp h; have HB := Aside0.mk (below_alloc (Below.refl w.heap.size w) (.cells #[.int .i64 a0_0, .int .i64 a0_1, .string a0_2, .slice A0_3 l0_3.length c0_3] 26)); have HG := Aside0.mk (blk_new w (.cells #[.int .i64 a0_0, .int .i64 a0_1, .string a0_2, .slice A0_3 l0_3.length c0_3] 26)); have HF := Aside0.mk hb; have HR := Aside0.mk hr0_3; clear hb hr0_3
 cases b with
 | false =>
  rw [if_neg (by decide)] at h; simp only [Option.some.injEq, Prod.mk.injEq] at h; obtain ⟨rfl, rfl⟩ := h; go_enter Try.func16, Try.ntmps16; go_wp2
  go_step3
  go_wp2_with (go_at_call 30; refine (tree_IsFormed.calls k _ _ _ _ _ _ _ _ (Kd.C_below HR.out HB.out) hc0_3 HF.out).mono ?_; rintro e w1 ⟨rfl, hb⟩; have HB1 := Aside0.mk (token_good.step HB.out hb); clear hb)
  (try rw [Exit.noGoto_ret])
  go_ret2
  exact ⟨_, rfl, Kd.R_nil _ _ _ _ _, HB1.out⟩
 | true =>
  rw [if_pos rfl] at h; obtain ⟨wd, hw, h⟩ := Option.bind_eq_some_iff.mp h; have HW := Aside0.mk hw; clear hw; by_cases c1 : a1 < 0
  ·rw [if_pos c1] at h; simp only [Option.some.injEq, Prod.mk.injEq] at h; obtain ⟨rfl, rfl⟩ := h; have c1b : decide (a1 < 0) = true := decide_eq_true c1; clear c1; go_enter Try.func16, Try.ntmps16; go_wp2
   go_step3
   go_wp2_with (first | (go_at_call 30; refine (tree_IsFormed.calls k _ _ _ _ _ _ _ _ (Kd.C_below HR.out HB.out) hc0_3 HF.out).mono ?_; rintro e w1 ⟨rfl, hb⟩; have HB1 := Aside0.mk (token_good.step HB.out hb); have HG1 := Aside0.mk (blk_below HG.out hb); have z0 : w1.cell? ⟨w.heap.size, 0, none⟩ = some (.int .i64 a0_0) := Lib.cell_of_heap HG1.out 0; have z1 : w1.cell? ⟨w.heap.size, 1, none⟩ = some (.int .i64 a0_1) := Lib.cell_of_heap HG1.out 1; have z2 : w1.cell? ⟨w.heap.size, 2, none⟩ = some (.string a0_2) := Lib.cell_of_heap HG1.out 2; have z3 : w1.cell? ⟨w.heap.size, 3, none⟩ = some (.slice A0_3 l0_3.length c0_3) := Lib.cell_of_heap HG1.out 3; clear hb) | (go_at_call 55; refine (tree_width.calls k _ _ _ _ _ _ _ _ (Kd.C_below HR.out HB1.out) hc0_3 HW.out).mono ?_; rintro e w2 ⟨rfl, hb⟩; have HB2 := Aside0.mk (token_good.step HB1.out hb); have HG2 := Aside0.mk (blk_below HG1.out hb); clear hb))
   (try rw [Exit.noGoto_ret])
   go_ret2
   exact ⟨_, rfl, Kd.R_nil _ _ _ _ _, HB2.out⟩
  ·rw [if_neg c1] at h; have c1b : decide (a1 < 0) = false := decide_eq_false c1; by_cases c2 : a1 > wd
   ·rw [if_pos c2] at h; simp only [Option.some.injEq, Prod.mk.injEq] at h; obtain ⟨rfl, rfl⟩ := h; have c2b : decide (wd < a1) = true := decide_eq_true c2; clear c1 c2; go_enter Try.func16, Try.ntmps16; go_wp2
    go_step3
    go_wp2_with (first | (go_at_call 30; refine (tree_IsFormed.calls k _ _ _ _ _ _ _ _ (Kd.C_below HR.out HB.out) hc0_3 HF.out).mono ?_; rintro e w1 ⟨rfl, hb⟩; have HB1 := Aside0.mk (token_good.step HB.out hb); have HG1 := Aside0.mk (blk_below HG.out hb); have z0 : w1.cell? ⟨w.heap.size, 0, none⟩ = some (.int .i64 a0_0) := Lib.cell_of_heap HG1.out 0; have z1 : w1.cell? ⟨w.heap.size, 1, none⟩ = some (.int .i64 a0_1) := Lib.cell_of_heap HG1.out 1; have z2 : w1.cell? ⟨w.heap.size, 2, none⟩ = some (.string a0_2) := Lib.cell_of_heap HG1.out 2; have z3 : w1.cell? ⟨w.heap.size, 3, none⟩ = some (.slice A0_3 l0_3.length c0_3) := Lib.cell_of_heap HG1.out 3; clear hb) | (go_at_call 55; refine (tree_width.calls k _ _ _ _ _ _ _ _ (Kd.C_below HR.out HB1.out) hc0_3 HW.out).mono ?_; rintro e w2 ⟨rfl, hb⟩; have HB2 := Aside0.mk (token_good.step HB1.out hb); have HG2 := Aside0.mk (blk_below HG1.out hb); clear hb))
    (try rw [Exit.noGoto_ret])
    go_ret2
    exact ⟨_, rfl, Kd.R_nil _ _ _ _ _, HB2.out⟩
   ·rw [if_neg c2] at h; have c2b : decide (wd < a1) = false := decide_eq_false c2; by_cases c3 : wd = 0
    ·rw [if_pos c3] at h; simp only [Option.some.injEq, Prod.mk.injEq] at h; obtain ⟨rfl, rfl⟩ := h; have c3b : (wd == 0) = true := beq_iff_eq.mpr c3; clear c1 c2 c3; go_enter Try.func16, Try.ntmps16; go_wp2
     go_step3
     go_wp2_with (first | (go_at_call 30; refine (tree_IsFormed.calls k _ _ _ _ _ _ _ _ (Kd.C_below HR.out HB.out) hc0_3 HF.out).mono ?_; rintro e w1 ⟨rfl, hb⟩; have HB1 := Aside0.mk (token_good.step HB.out hb); have HG1 := Aside0.mk (blk_below HG.out hb); have z0 : w1.cell? ⟨w.heap.size, 0, none⟩ = some (.int .i64 a0_0) := Lib.cell_of_heap HG1.out 0; have z1 : w1.cell? ⟨w.heap.size, 1, none⟩ = some (.int .i64 a0_1) := Lib.cell_of_heap HG1.out 1; have z2 : w1.cell? ⟨w.heap.size, 2, none⟩ = some (.string a0_2) := Lib.cell_of_heap HG1.out 2; have z3 : w1.cell? ⟨w.heap.size, 3, none⟩ = some (.slice A0_3 l0_3.length c0_3) := Lib.cell_of_heap HG1.out 3; clear hb) | (go_at_call 55; refine (tree_width.calls k _ _ _ _ _ _ _ _ (Kd.C_below HR.out HB1.out) hc0_3 HW.out).mono ?_; rintro e w2 ⟨rfl, hb⟩; have HB2 := Aside0.mk (token_good.step HB1.out hb); have HG2 := Aside0.mk (blk_below HG1.out hb); clear hb))
     (try rw [Exit.noGoto_ret])
     go_ret2
     exact ⟨_, rfl, Kd.R_nil _ _ _ _ _, HB2.out⟩
    ·rw [if_neg c3] at h; have c3b : (wd == 0) = false := beq_eq_false_iff_ne.mpr c3; obtain ⟨l, hl, h⟩ := Option.bind_eq_some_iff.mp h; simp only [Option.some.injEq, Prod.mk.injEq] at h; obtain ⟨rfl, rfl⟩ := h
     obtain ⟨o1, ho1⟩ : ∃ o1 : Int, mn a1 (wrap64 (wd - 1)) = o1 := ⟨_, rfl⟩
     rw [ho1] at hl
     have ho2 : (if wrap64 (wd - 1) < a1 then wrap64 (wd - 1) else a1) = o1 := (by rw [← ho1]; unfold mn; rfl)
     have HL := Aside0.mk hl; clear c1 c2 c3 hl ho1; go_enter Try.func16, Try.ntmps16; go_wp2
     go_step3
     go_wp2_with (first | (go_at_call 30; refine (tree_IsFormed.calls k _ _ _ _ _ _ _ _ (Kd.C_below HR.out HB.out) hc0_3 HF.out).mono ?_; rintro e w1 ⟨rfl, hb⟩; have HB1 := Aside0.mk (token_good.step HB.out hb); have HG1 := Aside0.mk (blk_below HG.out hb); have z0 : w1.cell? ⟨w.heap.size, 0, none⟩ = some (.int .i64 a0_0) := Lib.cell_of_heap HG1.out 0; have z1 : w1.cell? ⟨w.heap.size, 1, none⟩ = some (.int .i64 a0_1) := Lib.cell_of_heap HG1.out 1; have z2 : w1.cell? ⟨w.heap.size, 2, none⟩ = some (.string a0_2) := Lib.cell_of_heap HG1.out 2; have z3 : w1.cell? ⟨w.heap.size, 3, none⟩ = some (.slice A0_3 l0_3.length c0_3) := Lib.cell_of_heap HG1.out 3; clear hb) | (go_at_call 55; refine (tree_width.calls k _ _ _ _ _ _ _ _ (Kd.C_below HR.out HB1.out) hc0_3 HW.out).mono ?_; rintro e w2 ⟨rfl, hb⟩; have HB2 := Aside0.mk (token_good.step HB1.out hb); have HG2 := Aside0.mk (blk_below HG1.out hb); clear hb))
     go_step3
     go_wp2
     go_loopg [1, 7] k (fun kq v1 v7 w' => ∃ (n : S26) (A : Option Addr) (cc : Nat) (off : Int) (acc : List Int), v1 = .int .i64 off ∧ Aside0 (tree_Find.go k kq n off acc = some l) ∧ Aside0 (Kd.C k26 w A n.f2.length n.f2 ∧ n.f2.length ≤ cc) ∧ Aside0 (w'.heap[w.heap.size]? = some (.cells #[.int .i64 n.f0, .int .i64 n.f1.f0, .string n.f1.f1, .slice A n.f2.length cc] 26 (0, 0))) ∧ Aside0 (Kd.R (Kd.int .i64) 3 w' w.heap.size (fun _ => True) v7 acc) ∧ Aside0 (Below w.heap.size w w'))
     case atStart => exact ⟨⟨a0_0, ⟨a0_1, a0_2⟩, l0_3⟩, A0_3, c0_3, o1, [], (by first | rfl | rw [ho2]), HL, ⟨HR.out, hc0_3⟩, HG2, ⟨Kd.R_nil _ _ _ _ _⟩, HB2⟩
     case round =>
      clear HL HG HG1 HG2 HB HB1 HB2 HF HW z0 z1 z2 z3 ho2 c1b c2b c3b; obtain ⟨n, A, cc, off, acc, rfl, HA, HC, HG, HO, HB⟩ := hrel
      cases gk with
      | zero => exact absurd HA.out (by simp [tree_Find.go])
      | succ kq =>
      have H := HA.out; rw [tree_Find.go] at H; clear HA; have z0 : wr.cell? ⟨w.heap.size, 0, none⟩ = some (.int .i64 n.f0) := Lib.cell_of_heap HG.out 0; have z3 : wr.cell? ⟨w.heap.size, 3, none⟩ = some (.slice A n.f2.length cc) := Lib.cell_of_heap HG.out 3; have hmax : n.f2.length ≤ 9223372036854775807 := HC.out.1.2.1; by_cases c4 : n.f0 = 1
      ·rw [if_pos c4] at H; injection H with H; subst H; have c4b : (n.f0 != 1) = false := bne_eq_false_iff_eq.mpr c4; clear c4; go_wp2
       (try rw [Exit.noGoto_ret])
       go_ret2
       exact ⟨_, rfl, HO.out, HB.out⟩
      ·rw [if_neg c4] at H; have c4b : (n.f0 != 1) = true := bne_iff_ne.mpr c4; clear c4; obtain ⟨⟨j, x, o2⟩, hs, Hn⟩ := Option.bind_eq_some_iff.mp H; clear H; obtain ⟨hlen, Hn⟩ := Ut.ite_some Hn; have HS := Aside0.mk hs; have HN := Aside0.mk Hn; clear hs Hn; go_wp2
       go_loopg [1, 7, 35] n.f2.length (fun kq2 v1 v7 v35 w' => ∃ (i : Nat) (o : Int), v1 = .int .i64 o ∧ v35 = .int .i64 (i : Int) ∧ Aside0 (i + kq2 = n.f2.length) ∧ Aside0 (tree_Find.scan k (n.f2.drop i) o i = some (j, x, o2)) ∧ Aside0 (w'.heap[w.heap.size]? = some (.cells #[.int .i64 n.f0, .int .i64 n.f1.f0, .string n.f1.f1, .slice A n.f2.length cc] 26 (0, 0))) ∧ Aside0 (Kd.R (Kd.int .i64) 3 w' w.heap.size (fun _ => True) v7 acc) ∧ Aside0 (Below w.heap.size w w'))
       case atStart => exact ⟨0, off, rfl, rfl, ⟨by omega⟩, HS, HG, HO, HB⟩
       case round =>
        clear HS HG HO HB z0 z3; obtain ⟨i, o, rfl, rfl, HK, HS, HG, HO, HB⟩ := hrel; by_cases hlt : i < n.f2.length
        ·have hd1 : decide ((i : Int) < (n.f2.length : Int)) = true := decide_eq_true (by omega); have S := HS.out; rw [List.drop_eq_getElem_cons hlt] at S; simp only [tree_Find.scan] at S; obtain ⟨wy, hwy, Sn⟩ := Option.bind_eq_some_iff.mp S; clear S HS
         have hrd : rd_T26 n.f2 (i : Int) = n.f2[i] := (by simp [rd_T26, hlt])
         obtain ⟨ad, A3, c3, e, hx0, hx1, hx2, hx3, hl3, hC3⟩ := at_T26 HC.out.1 (i : Int) (by omega) (by omega); rw [hrd] at hx0 hx1 hx2 hx3 hl3 hC3; rw [Int.toNat_natCast] at hx0 hx1 hx2 hx3; subst e; replace hx0 := (HB.out.cell (World.block_lt_of_cell? w _ hx0)).trans hx0; replace hx1 := (HB.out.cell (World.block_lt_of_cell? w _ hx1)).trans hx1; replace hx2 := (HB.out.cell (World.block_lt_of_cell? w _ hx2)).trans hx2; replace hx3 := (HB.out.cell (World.block_lt_of_cell? w _ hx3)).trans hx3; clear hrd; generalize n.f2[i] = y at *; have HW := Aside0.mk hwy; have HC3 := Aside0.mk (And.intro hC3 hl3); have HB1 := Aside0.mk (below_alloc HB.out (.cells #[.int .i64 y.f0, .int .i64 y.f1.f0, .string y.f1.f1, .slice A3 y.f2.length c3] 26)); have HG1 := Aside0.mk (blk_alloc HG.out (.cells #[.int .i64 y.f0, .int .i64 y.f1.f0, .string y.f1.f1, .slice A3 y.f2.length c3] 26)); have HY1 := Aside0.mk (blk_new wr (.cells #[.int .i64 y.f0, .int .i64 y.f1.f0, .string y.f1.f1, .slice A3 y.f2.length c3] 26)); have HO1 := Aside0.mk (Kd.R_alloc HO.out (.cells #[.int .i64 y.f0, .int .i64 y.f1.f0, .string y.f1.f1, .slice A3 y.f2.length c3] 26)); clear hwy hC3 hl3; by_cases c5 : o < wy
         ·rw [if_pos c5] at Sn; simp only [Option.some.injEq, Prod.mk.injEq] at Sn; obtain ⟨rfl, rfl, rfl⟩ := Sn; have c5b : decide (o < wy) = true := decide_eq_true c5; clear c5
          go_wp2_with (first | (go_at_call 55; refine (tree_width.calls k _ _ _ _ _ _ _ _ (Kd.C_below HC3.out.1 HB1.out) HC3.out.2 HW.out).mono ?_; rintro e w3 ⟨rfl, hb⟩; have HB3 := Aside0.mk (token_good.step HB1.out hb); have HG3 := Aside0.mk (blk_below HG1.out hb); have HY3 := Aside0.mk (blk_below HY1.out hb); have HO3 := Aside0.mk (Kd.R_below HO1.out hb); clear hb) | (at_builtin; refine Kd.R_append (Kd.int .i64) (w0 := w) w.heap.size rfl (.tmp 45) (.tmp 47) 30 3 (.int .i64 0) 8 rfl Try.underlying30 tree_Find.infoInt rfl (by decide) (by omega) u7 acc (i : Int) [.int .i64 (i : Int)] (fun _ => True) (fun _ => False) rfl rfl rfl (fun _ hk => hk.elim) (fun _ _ => trivial) HO3.out HB3.out (below_size HB3.out) (by omega) ?_; intro v8 w4 ho hb hg hat; have HB4 := Aside0.mk hb; have HO4 := Aside0.mk ho; have HG4 := Aside0.mk (blk_grown HG3.out hg (Kd.R_ne HO3.out HG3.out (by decide))); have HY4 := Aside0.mk (blk_grown HY3.out hg (Kd.R_ne HO3.out HY3.out (by decide))); clear ho hb hg hat; have y0 : w4.cell? ⟨wr.heap.size, 0, none⟩ = some (.int .i64 y.f0) := Lib.cell_of_heap HY4.out 0; have y1 : w4.cell? ⟨wr.heap.size, 1, none⟩ = some (.int .i64 y.f1.f0) := Lib.cell_of_heap HY4.out 1; have y2 : w4.cell? ⟨wr.heap.size, 2, none⟩ = some (.string y.f1.f1) := Lib.cell_of_heap HY4.out 2; have y3 : w4.cell? ⟨wr.heap.size, 3, none⟩ = some (.slice A3 y.f2.length c3) := Lib.cell_of_heap HY4.out 3; have z0 : w4.cell? ⟨w.heap.size, 0, none⟩ = some (.int .i64 n.f0) := Lib.cell_of_heap HG4.out 0; have z1 : w4.cell? ⟨w.heap.size, 1, none⟩ = some (.int .i64 n.f1.f0) := Lib.cell_of_heap HG4.out 1; have z2 : w4.cell? ⟨w.heap.size, 2, none⟩ = some (.string n.f1.f1) := Lib.cell_of_heap HG4.out 2; have z3 : w4.cell? ⟨w.heap.size, 3, none⟩ = some (.slice (some ad) n.f2.length cc) := Lib.cell_of_heap HG4.out 3; have d0 := Lib.frozen_of_heap HG4.out 0; have d1 := Lib.frozen_of_heap HG4.out 1; have d2 := Lib.frozen_of_heap HG4.out 2; have d3 := Lib.frozen_of_heap HG4.out 3))
          go_roundg kq
          case measure => omega
          case rel => exact ⟨y, A3, c3, o, acc ++ [(i : Int)], rfl, HN, HC3, ⟨by refine blk_put (cs := #[.int .i64 y.f0, .int .i64 y.f1.f0, .string y.f1.f1, .slice (some ad) n.f2.length cc]) ?_ 3 _ rfl; refine blk_put (cs := #[.int .i64 y.f0, .int .i64 y.f1.f0, .string n.f1.f1, .slice (some ad) n.f2.length cc]) ?_ 2 _ rfl; refine blk_put (cs := #[.int .i64 y.f0, .int .i64 n.f1.f0, .string n.f1.f1, .slice (some ad) n.f2.length cc]) ?_ 1 _ rfl; refine blk_put (cs := #[.int .i64 n.f0, .int .i64 n.f1.f0, .string n.f1.f1, .slice (some ad) n.f2.length cc]) ?_ 0 _ rfl; exact HG4.out⟩, ⟨by refine Kd.R_set (Kd.R_set (Kd.R_set (Kd.R_set HO4.out HG4.out ?ht 0 _) (blk_put HG4.out 0 _ rfl) ?ht 1 _) (blk_put (blk_put HG4.out 0 _ rfl) 1 _ rfl) ?ht 2 _) (blk_put (blk_put (blk_put HG4.out 0 _ rfl) 1 _ rfl) 2 _ rfl) ?ht 3 _; intro q hq e; subst e; revert hq; decide⟩, ⟨by repeat (first | exact HB4.out | refine below_set ?_ (Nat.le_refl _))⟩⟩
         ·rw [if_neg c5] at Sn; have HS2 := Aside0.mk Sn; have c5b : decide (o < wy) = false := decide_eq_false c5; clear c5 Sn
          cases gk with
          | zero => exact absurd hlt (by have := HK.out; omega)
          | succ kq2 =>
          go_wp2_with (go_at_call 55; refine (tree_width.calls k _ _ _ _ _ _ _ _ (Kd.C_below HC3.out.1 HB1.out) HC3.out.2 HW.out).mono ?_; rintro e w3 ⟨rfl, hb⟩; have HB3 := Aside0.mk (token_good.step HB1.out hb); have HG3 := Aside0.mk (blk_below HG1.out hb); have HO3 := Aside0.mk (Kd.R_below HO1.out hb); clear hb)
          go_roundg kq2
          case measure => omega
          case rel => exact ⟨i + 1, _, rfl, by go_num, ⟨by have := HK.out; omega⟩, HS2, HG3, HO3, HB3⟩
        ·have S := HS.out; rw [List.drop_of_length_le (by have := HK.out; omega)] at S
         simp [tree_Find.scan] at S

end Go.Proofs.Ytnafnieocpkkhaa.P

namespace Go.Proofs.Ytnafnieocpkkhaa.P
open Go.RowKit Go.Proofs.YtnafnieocpkkhaaW.PrintWords Go.Proofs.YtnafnieocpkkhaaW.PrintLast Go.Proofs.YtnafnieocpkkhaaW.PrintMore
attribute [local go_sem] max2_int min2_int max_two min_two max_three min_three max_four min_four
set_option linter.unusedVariables false
set_option linter.unusedSimpArgs false

mutual
def tree_Cover.l0 : Nat → List Int → Int → Int → Int → ByteArray → List (S26) → Int → Int → Option (List Int × Int)
 | 0, _, _, _, _, _, _, _, _ => none
 | k + 1, x6, x7, x180000, x180001, x180002, x180003, x181000, x181001 => tree_Cover.l1 k x6 (-1) 0 x7 x180003 (x180003.length : Int) 0 x180000 x180001 x180002 x180003 x181000 x181001
def tree_Cover.l1 : Nat → List Int → Int → Int → Int → List (S26) → Int → Int → Int → Int → ByteArray → List (S26) → Int → Int → Option (List Int × Int)
 | 0, _, _, _, _, _, _, _, _, _, _, _, _, _ => none
 | k + 1, x6, x8, x9, x10, x36, x37, x38, x180000, x180001, x180002, x180003, x181000, x181001 => if x38 < x37 then (if 0 ≤ x38 then (if x38 < (x36.length : Int) then ((tree_width.f k ((rd_T26 x36 x38).f0) ((rd_T26 x36 x38).f1.f0) ((rd_T26 x36 x38).f1.f1) ((rd_T26 x36 x38).f2)).bind fun t185 => (if x10 ≤ x181000 then (if x181001 ≤ (wrap64 (x10 + t185)) then (tree_Cover.l1 k x6 x38 x10 (wrap64 (x10 + t185)) x36 x37 (wrap64 (x38 + 1)) x180000 x180001 x180002 x180003 x181000 x181001) else (tree_Cover.l1 k x6 x8 x9 (wrap64 (x10 + t185)) x36 x37 (wrap64 (x38 + 1)) x180000 x180001 x180002 x180003 x181000 x181001)) else (tree_Cover.l1 k x6 x8 x9 (wrap64 (x10 + t185)) x36 x37 (wrap64 (x38 + 1)) x180000 x180001 x180002 x180003 x181000 x181001))) else (none)) else (none)) else (if x8 < 0 then (some (x6, 0)) else (if x6.length < 17592186044416 then (if 0 ≤ x8 then (if x8 < (x180003.length : Int) then (tree_Cover.l0 k (x6 ++ [x8]) x9 ((rd_T26 x180003 x8).f0) ((rd_T26 x180003 x8).f1.f0) ((rd_T26 x180003 x8).f1.f1) ((rd_T26 x180003 x8).f2) x181000 x181001) else (none)) else (none)) else (none)))
end
def tree_Cover.f (k : Nat) (a0_0 : Int) (a0_1 : Int) (a0_2 : ByteArray) (l0_3 : List (S26)) (a1_0 : Int) (a1_1 : Int) : Option (List Int × Int) := (tree_IsFormed.f k a0_0 a0_1 a0_2 l0_3).bind fun t181 => (if t181 = true then (if a1_0 < 0 then (none) else (if a1_0 > a1_1 then (none) else ((tree_width.f k a0_0 a0_1 a0_2 l0_3).bind fun t182 => (if a1_1 > t182 then (none) else (tree_Cover.l0 k ([] : List Int) 0 a0_0 a0_1 a0_2 l0_3 a1_0 a1_1))))) else (none))
theorem tree_Cover.info : (Try.prog.info? 3).map (fun i => (i.zero, i.size, i.bytes)) = some (some (.int .i64 0), 1, 8) := by kernel_rfl
set_option maxHeartbeats 8000000 in
set_option maxRecDepth 100000 in
theorem tree_Cover.calls (k : Nat) (a0_0 : Int) (a0_1 : Int) (a0_2 : ByteArray) (A0_3 : Option Addr) (c0_3 : Nat) (l0_3 : List (S26)) (a1_0 : Int) (a1_1 : Int) (r1 : List Int) (r2 : Int) (w : World) (hr0_3 : Kd.C k26 w A0_3 l0_3.length l0_3) (hc0_3 : l0_3.length ≤ c0_3) (h : tree_Cover.f k a0_0 a0_1 a0_2 l0_3 a1_0 a1_1 = some (r1, r2)) :
  Calls Try.prog 17 #[.agg #[.int .i64 a0_0, .int .i64 a0_1, .string a0_2, .slice A0_3 l0_3.length c0_3], .agg #[.int .i64 a1_0, .int .i64 a1_1]] w fun e w' => ∃ v0_ : Value, e = .returned (.tuple #[v0_, .int .i64 r2]) ∧ Kd.R (Kd.int .i64) 3 w' w.heap.size (fun _ => True) v0_ r1 ∧ Below w.heap.size w w' := by
 have hu := Try.underlying26; have hu2 := Try.underlying28; unfold tree_Cover.f at h; obtain ⟨b, hb, h⟩ := Option.bind_eq_some_iff.mp h
 cases b with
 | false => exact absurd h (by simp)
 | true =>
 rw [if_pos rfl] at h; by_cases c1 : a1_0 < 0
 ·rw [if_pos c1] at h; cases h
 rw [if_neg c1] at h; by_cases c2 : a1_0 > a1_1
 ·rw [if_pos c2] at h; cases h
 rw [if_neg c2] at h; obtain ⟨wd, hwd, h⟩ := Option.bind_eq_some_iff.mp h; by_cases c3 : a1_1 > wd
 ·rw [if_pos c3] at h; cases h
 rw [if_neg c3] at h; have d1 : decide (a1_0 < 0) = false := decide_eq_false c1; have d2 : decide (a1_1 < a1_0) = false := decide_eq_false c2; have d3 : decide (wd < a1_1) = false := decide_eq_false c3; have hw2 : Below w.heap.size w ((w.alloc (.cells #[.int .i64 a0_0, .int .i64 a0_1, .string a0_2, .slice A0_3 l0_3.length c0_3] 26)).alloc (.cells #[.int .i64 a1_0, .int .i64 a1_1] 28)) := below_alloc (below_alloc (Below.refl _ _) _) _; have Cn := Aside0.mk (Kd.C_below hr0_3 hw2); have C0 := Aside0.mk hr0_3; have HB := Aside0.mk hw2; have H2 := Aside0.mk (show ((w.alloc (.cells #[.int .i64 a0_0, .int .i64 a0_1, .string a0_2, .slice A0_3 l0_3.length c0_3] 26)).alloc (.cells #[.int .i64 a1_0, .int .i64 a1_1] 28)).heap[w.heap.size]? = some (.cells #[.int .i64 a0_0, .int .i64 a0_1, .string a0_2, .slice A0_3 l0_3.length c0_3] 26 (0, 0)) from blk_alloc (blk_new w _) _); have H3 := Aside0.mk (show ((w.alloc (.cells #[.int .i64 a0_0, .int .i64 a0_1, .string a0_2, .slice A0_3 l0_3.length c0_3] 26)).alloc (.cells #[.int .i64 a1_0, .int .i64 a1_1] 28)).heap[w.heap.size + 1]? = some (.cells #[.int .i64 a1_0, .int .i64 a1_1] 28 (0, 0)) by simpa using blk_new (w.alloc (.cells #[.int .i64 a0_0, .int .i64 a0_1, .string a0_2, .slice A0_3 l0_3.length c0_3] 26)) (.cells #[.int .i64 a1_0, .int .i64 a1_1] 28)); have E1 := Aside0.mk hb; have E2 := Aside0.mk hwd; have HH := Aside0.mk h; clear hr0_3 hw2 h hb hwd c1 c2 c3; go_enter Try.func17, Try.ntmps17; go_wp2_with fail; refine (tree_IsFormed.calls k a0_0 a0_1 a0_2 A0_3 c0_3 l0_3 true _ Cn.out hc0_3 E1.out).mono ?_; rintro e w3 ⟨rfl, hb⟩; replace Cn := Aside0.mk (Kd.C_below Cn.out hb); replace H2 := Aside0.mk (blk_below H2.out hb); replace H3 := Aside0.mk (blk_below H3.out hb); replace HB := Aside0.mk (Cl.bstep HB.out hb); clear hb; obtain ⟨yH2_0, yH2_1, yH2_2, yH2_3⟩ := Cl.four H2.out; obtain ⟨yH3_0, yH3_1⟩ := Cl.two H3.out; go_wp2_with fail
 have hS : (fun w' : World => w'.cell? ⟨w.heap.size, 0, none⟩ = some (.int .i64 a0_0) ∧ w'.cell? ⟨w.heap.size, 1, none⟩ = some (.int .i64 a0_1) ∧ w'.cell? ⟨w.heap.size, 2, none⟩ = some (.string a0_2) ∧ w'.cell? ⟨w.heap.size, 3, none⟩ = some (.slice A0_3 l0_3.length c0_3) ∧ w'.cell? ⟨w.heap.size + 1, 0, none⟩ = some (.int .i64 a1_0) ∧ w'.cell? ⟨w.heap.size + 1, 1, none⟩ = some (.int .i64 a1_1)) w3.drew := ⟨yH2_0, yH2_1, yH2_2, yH2_3, yH3_0, yH3_1⟩
 have hd := below_drew1 (Below.refl w3.heap.size w3); replace Cn := Aside0.mk (Kd.C_below Cn.out hd); replace H2 := Aside0.mk (blk_below H2.out hd); replace H3 := Aside0.mk (blk_below H3.out hd); replace HB := Aside0.mk (Cl.bstep HB.out hd); clear hd; refine start_ (n := 17) (S := fun w' => w'.cell? ⟨w.heap.size, 0, none⟩ = some (.int .i64 a0_0) ∧ w'.cell? ⟨w.heap.size, 1, none⟩ = some (.int .i64 a0_1) ∧ w'.cell? ⟨w.heap.size, 2, none⟩ = some (.string a0_2) ∧ w'.cell? ⟨w.heap.size, 3, none⟩ = some (.slice A0_3 l0_3.length c0_3) ∧ w'.cell? ⟨w.heap.size + 1, 0, none⟩ = some (.int .i64 a1_0) ∧ w'.cell? ⟨w.heap.size + 1, 1, none⟩ = some (.int .i64 a1_1)) (ds := []) #[false, false, false, false, false, false, false, false, false, false, false, false, false, false, false, false, false] (by kernel_rfl) rfl rfl hS (fun hHeld => ?_); refine take_ (i := 0) (N := some 17) (v := ?_) (a' := ?_) #[true, false, false, false, false, false, false, false, false, false, false, false, false, false, false, false, false] rfl rfl (by kernel_rfl) (fun _ _ _ h => h) (Or.inl ⟨by rfl, ?_⟩) hHeld ?_ ?_; rotate_left
 ·rintro w' ⟨s0, s1, s2, s3, s4, s5⟩; go_simp; with_reducible rfl
 rotate_left
 ·simp only [Act.put, List.setIfInBounds_toArray, List.set_cons_zero, List.set_cons_succ, i64_w, i32_w]; rfl
 refine take_ (i := 1) (N := some 18) (v := ?_) (a' := ?_) #[true, true, false, false, false, false, false, false, false, false, false, false, false, false, false, false, false] rfl rfl (by kernel_rfl) (fun _ _ _ h => h) (Or.inl ⟨by rfl, ?_⟩) hHeld ?_ ?_; rotate_left
 ·rintro w' ⟨s0, s1, s2, s3, s4, s5⟩; go_simp; with_reducible rfl
 rotate_left
 ·simp only [Act.put, List.setIfInBounds_toArray, List.set_cons_zero, List.set_cons_succ, i64_w, i32_w]; rfl
 refine take_ (i := 2) (N := some 19) (v := ?_) (a' := ?_) #[true, true, true, false, false, false, false, false, false, false, false, false, false, false, false, false, false] rfl rfl (by kernel_rfl) (fun _ _ _ h => h) (Or.inl ⟨by rfl, ?_⟩) hHeld ?_ ?_; rotate_left
 ·rintro w' ⟨s0, s1, s2, s3, s4, s5⟩; go_simp; with_reducible rfl
 rotate_left
 ·simp only [Act.put, List.setIfInBounds_toArray, List.set_cons_zero, List.set_cons_succ, i64_w, i32_w]; rfl
 refine take_ (i := 3) (N := some 20) (v := ?_) (a' := ?_) #[true, true, true, true, false, false, false, false, false, false, false, false, false, false, false, false, false] rfl rfl (by kernel_rfl) (fun _ _ _ h => h) (Or.inl ⟨by rfl, ?_⟩) hHeld ?_ ?_; rotate_left
 ·rintro w' ⟨s0, s1, s2, s3, s4, s5⟩; go_simp; with_reducible rfl
 rotate_left
 ·simp only [Act.put, List.setIfInBounds_toArray, List.set_cons_zero, List.set_cons_succ, i64_w, i32_w]; rfl
 refine take_ (i := 4) (N := some 21) (v := ?_) (a' := ?_) #[true, true, true, true, true, false, false, false, false, false, false, false, false, false, false, false, false] rfl rfl (by kernel_rfl) (fun _ _ _ h => h) (Or.inl ⟨by rfl, ?_⟩) hHeld ?_ ?_; rotate_left
 ·rintro w' ⟨s0, s1, s2, s3, s4, s5⟩; go_simp; with_reducible rfl
 rotate_left
 ·simp only [Act.put, List.setIfInBounds_toArray, List.set_cons_zero, List.set_cons_succ, i64_w, i32_w]; rfl
 refine take_ (i := 5) (N := some 22) (v := ?_) (a' := ?_) #[true, true, true, true, true, true, false, false, false, false, false, false, false, false, false, false, false] rfl rfl (by kernel_rfl) (fun _ _ _ h => h) (Or.inl ⟨by rfl, ?_⟩) hHeld ?_ ?_; rotate_left
 ·rintro w' ⟨s0, s1, s2, s3, s4, s5⟩; go_simp; with_reducible rfl
 rotate_left
 ·simp only [Act.put, List.setIfInBounds_toArray, List.set_cons_zero, List.set_cons_succ, i64_w, i32_w]; rfl
 refine take_ (i := 6) (N := some 23) (v := ?_) (a' := ?_) #[true, true, true, true, true, true, true, false, false, false, false, false, false, false, false, false, false] rfl rfl (by kernel_rfl) (fun _ _ _ h => h) (Or.inl ⟨by rfl, ?_⟩) hHeld ?_ ?_; rotate_left
 ·rintro w' ⟨s0, s1, s2, s3, s4, s5⟩; go_simp; with_reducible rfl
 rotate_left
 ·simp only [Act.put, List.setIfInBounds_toArray, List.set_cons_zero, List.set_cons_succ, i64_w, i32_w]; rfl
 refine take_ (i := 7) (N := some 24) (v := ?_) (a' := ?_) #[true, true, true, true, true, true, true, true, false, false, false, false, false, false, false, false, false] rfl rfl (by kernel_rfl) (fun _ _ _ h => h) (Or.inl ⟨by rfl, ?_⟩) hHeld ?_ ?_; rotate_left
 ·rintro w' ⟨s0, s1, s2, s3, s4, s5⟩; go_simp; with_reducible rfl
 rotate_left
 ·simp only [Act.put, List.setIfInBounds_toArray, List.set_cons_zero, List.set_cons_succ, i64_w, i32_w]; rfl
 refine take_ (i := 8) (N := some 25) (v := ?_) (a' := ?_) #[true, true, true, true, true, true, true, true, true, false, false, false, false, false, false, false, false] rfl rfl (by kernel_rfl) (fun _ _ _ h => h) (Or.inl ⟨by rfl, ?_⟩) hHeld ?_ ?_; rotate_left
 ·rintro w' ⟨s0, s1, s2, s3, s4, s5⟩; go_simp; with_reducible rfl
 rotate_left
 ·simp only [Act.put, List.setIfInBounds_toArray, List.set_cons_zero, List.set_cons_succ, i64_w, i32_w]; rfl
 refine take_ (i := 9) (N := some 26) (v := ?_) (a' := ?_) #[true, true, true, true, true, true, true, true, true, true, false, false, false, false, false, false, false] rfl rfl (by kernel_rfl) (fun _ _ _ h => h) (Or.inl ⟨by rfl, ?_⟩) hHeld ?_ ?_; rotate_left
 ·rintro w' ⟨s0, s1, s2, s3, s4, s5⟩; go_simp; with_reducible rfl
 rotate_left
 ·simp only [Act.put, List.setIfInBounds_toArray, List.set_cons_zero, List.set_cons_succ, i64_w, i32_w]; rfl
 refine take_ (i := 10) (N := some 27) (v := ?_) (a' := ?_) #[true, true, true, true, true, true, true, true, true, true, true, false, false, false, false, false, false] rfl rfl (by kernel_rfl) (fun _ _ _ h => h) (Or.inl ⟨by rfl, ?_⟩) hHeld ?_ ?_; rotate_left
 ·rintro w' ⟨s0, s1, s2, s3, s4, s5⟩; go_simp; with_reducible rfl
 rotate_left
 ·simp only [Act.put, List.setIfInBounds_toArray, List.set_cons_zero, List.set_cons_succ, i64_w, i32_w]; rfl
 refine take_ (i := 11) (N := some 28) (v := ?_) (a' := ?_) #[true, true, true, true, true, true, true, true, true, true, true, true, false, false, false, false, false] rfl rfl (by kernel_rfl) (fun _ _ _ h => h) (Or.inl ⟨by rfl, ?_⟩) hHeld ?_ ?_; rotate_left
 ·rintro w' ⟨s0, s1, s2, s3, s4, s5⟩; go_simp; with_reducible rfl
 rotate_left
 ·simp only [Act.put, List.setIfInBounds_toArray, List.set_cons_zero, List.set_cons_succ, i64_w, i32_w]; rfl
 refine take_ (i := 12) (N := some 29) (v := ?_) (a' := ?_) #[true, true, true, true, true, true, true, true, true, true, true, true, true, false, false, false, false] rfl rfl (by kernel_rfl) (fun _ _ _ h => h) (Or.inl ⟨by rfl, ?_⟩) hHeld ?_ ?_; rotate_left
 ·rintro w' ⟨s0, s1, s2, s3, s4, s5⟩; go_simp; with_reducible rfl
 rotate_left
 ·simp only [Act.put, List.setIfInBounds_toArray, List.set_cons_zero, List.set_cons_succ, i64_w, i32_w]; rfl
 refine take_ (i := 13) (N := some 30) (v := ?_) (a' := ?_) #[true, true, true, true, true, true, true, true, true, true, true, true, true, true, false, false, false] rfl rfl (by kernel_rfl) (fun _ _ _ h => h) (Or.inl ⟨by rfl, ?_⟩) hHeld ?_ ?_; rotate_left
 ·rintro w' ⟨s0, s1, s2, s3, s4, s5⟩; go_simp; with_reducible rfl
 rotate_left
 ·simp only [Act.put, List.setIfInBounds_toArray, List.set_cons_zero, List.set_cons_succ, i64_w, i32_w]; rfl
 refine one_ (i := 14) (N := some 31) #[true, true, true, true, true, true, true, true, true, true, true, true, true, true, true, false, false] rfl rfl (by kernel_rfl) (by decide) (fun K hK => ?_); go_simp; go_at_call 55; refine (tree_width.calls k a0_0 a0_1 a0_2 A0_3 c0_3 l0_3 wd _ Cn.out hc0_3 E2.out).mono ?_; rintro e w4 ⟨rfl, hb⟩
 have hk4 : (fun w' : World => w'.cell? ⟨w.heap.size, 0, none⟩ = some (.int .i64 a0_0) ∧ w'.cell? ⟨w.heap.size, 1, none⟩ = some (.int .i64 a0_1) ∧ w'.cell? ⟨w.heap.size, 2, none⟩ = some (.string a0_2) ∧ w'.cell? ⟨w.heap.size, 3, none⟩ = some (.slice A0_3 l0_3.length c0_3) ∧ w'.cell? ⟨w.heap.size + 1, 0, none⟩ = some (.int .i64 a1_0) ∧ w'.cell? ⟨w.heap.size + 1, 1, none⟩ = some (.int .i64 a1_1)) w4 := ⟨pw_cell_below hb hHeld.1, pw_cell_below hb hHeld.2.1, pw_cell_below hb hHeld.2.2.1, pw_cell_below hb hHeld.2.2.2.1, pw_cell_below hb hHeld.2.2.2.2.1, pw_cell_below hb hHeld.2.2.2.2.2⟩
 replace Cn := Aside0.mk (Kd.C_below Cn.out hb); replace H2 := Aside0.mk (blk_below H2.out hb); replace H3 := Aside0.mk (blk_below H3.out hb); replace HB := Aside0.mk (Cl.bstep HB.out hb); clear hb; refine hK.out _ _ hk4 (fun hHeld => ?_); clear hK K; refine take_ (i := 15) (N := some 32) (v := ?_) (a' := ?_) #[true, true, true, true, true, true, true, true, true, true, true, true, true, true, true, true, false] rfl rfl (by kernel_rfl) (fun _ _ _ h => h) (Or.inl ⟨by rfl, ?_⟩) hHeld ?_ ?_; rotate_left
 ·rintro w' ⟨s0, s1, s2, s3, s4, s5⟩; go_simp; with_reducible rfl
 rotate_left
 ·simp only [Act.put, List.setIfInBounds_toArray, List.set_cons_zero, List.set_cons_succ, i64_w, i32_w]; rfl
 refine take_ (i := 16) (N := some 33) (v := ?_) (a' := ?_) #[true, true, true, true, true, true, true, true, true, true, true, true, true, true, true, true, true] rfl rfl (by kernel_rfl) (fun _ _ _ h => h) (Or.inl ⟨by rfl, ?_⟩) hHeld ?_ ?_; rotate_left
 ·rintro w' ⟨s0, s1, s2, s3, s4, s5⟩; go_simp; with_reducible rfl
 rotate_left
 ·simp only [Act.put, List.setIfInBounds_toArray, List.set_cons_zero, List.set_cons_succ, i64_w, i32_w]; rfl
 refine done_ (by kernel_rfl) ?_; clear yH2_0 yH2_1 yH2_2 yH2_3 yH3_0 yH3_1 hS hHeld hk4 E1 E2 d1 d2 d3; go_wp2_with fail
 go_loopg [6, 7] k (fun kq v6 v7 w' => ∃ (n : S26) (A : Option Addr) (cc : Nat) (acc : List Int) (fr : Int), v7 = .int .i64 fr ∧ Aside0 (tree_Cover.l0 kq acc fr n.f0 n.f1.f0 n.f1.f1 n.f2 a1_0 a1_1 = some (r1, r2)) ∧ Aside0 (Kd.C k26 w A n.f2.length n.f2 ∧ n.f2.length ≤ cc) ∧ Aside0 (w'.heap[w.heap.size]? = some (.cells #[.int .i64 n.f0, .int .i64 n.f1.f0, .string n.f1.f1, .slice A n.f2.length cc] 26 (0, 0))) ∧ Aside0 (w'.heap[w.heap.size + 1]? = some (.cells #[.int .i64 a1_0, .int .i64 a1_1] 28 (0, 0))) ∧ Aside0 (Kd.R (Kd.int .i64) 3 w' w.heap.size (fun _ => True) v6 acc) ∧ Aside0 (Below w.heap.size w w'))
 case atStart => exact ⟨⟨a0_0, ⟨a0_1, a0_2⟩, l0_3⟩, A0_3, c0_3, [], 0, rfl, HH, ⟨C0.out, hc0_3⟩, H2, H3, ⟨Kd.R_nil _ _ _ _ _⟩, HB⟩
 case round =>
  clear HH C0 Cn H2 H3 HB; obtain ⟨n, A, cc, acc, fr, rfl, HA, HC, HG, HS, HO, HB⟩ := hrel
  cases gk with
  | zero => exact absurd HA.out (by simp [tree_Cover.l0])
  | succ kq =>
  have H := HA.out; rw [tree_Cover.l0] at H; have HL := Aside0.mk H; clear HA H; obtain ⟨z0, z1, z2, z3⟩ := Cl.four HG.out; obtain ⟨s0, s1⟩ := Cl.two HS.out; have hmax : n.f2.length ≤ 9223372036854775807 := HC.out.1.2.1; go_wp2_with fail
  go_loopg [8, 9, 10, 38] kq (fun kq2 v8 v9 v10 v38 w' => ∃ (nx bg at_ : Int) (i : Nat), v8 = .int .i64 nx ∧ v9 = .int .i64 bg ∧ v10 = .int .i64 at_ ∧ v38 = .int .i64 (i : Int) ∧ Aside0 (kq2 ≤ kq) ∧ Aside0 (tree_Cover.l1 kq2 acc nx bg at_ n.f2 (n.f2.length : Int) (i : Int) n.f0 n.f1.f0 n.f1.f1 n.f2 a1_0 a1_1 = some (r1, r2)) ∧ Aside0 (w'.heap[w.heap.size]? = some (.cells #[.int .i64 n.f0, .int .i64 n.f1.f0, .string n.f1.f1, .slice A n.f2.length cc] 26 (0, 0))) ∧ Aside0 (w'.heap[w.heap.size + 1]? = some (.cells #[.int .i64 a1_0, .int .i64 a1_1] 28 (0, 0))) ∧ Aside0 (Kd.R (Kd.int .i64) 3 w' w.heap.size (fun _ => True) u6 acc) ∧ Aside0 (Below w.heap.size w w'))
  case atStart => exact ⟨-1, 0, fr, 0, rfl, rfl, rfl, rfl, ⟨Nat.le_refl _⟩, HL, HG, HS, HO, HB⟩
  case round =>
   clear HL HG HS HO HB z0 z1 z2 z3 s0 s1; obtain ⟨nx, bg, at_, i, rfl, rfl, rfl, rfl, HK, HL, HG, HS, HO, HB⟩ := hrel
   cases gk with
   | zero => exact absurd HL.out (by simp [tree_Cover.l1])
   | succ kq2 =>
   have H := HL.out; simp only [tree_Cover.l1] at H; clear HL; obtain ⟨s0, s1⟩ := Cl.two HS.out; by_cases hlt : (i : Int) < (n.f2.length : Int)
   ·rw [if_pos hlt] at H; rw [if_pos (by omega), if_pos hlt] at H; obtain ⟨t, ht, H⟩ := Option.bind_eq_some_iff.mp H; have hd1 : decide ((i : Int) < (n.f2.length : Int)) = true := decide_eq_true hlt
    have hin : i < n.f2.length := (by omega)
    have hrd : rd_T26 n.f2 (i : Int) = n.f2[i] := (by simp [rd_T26, hin])
    obtain ⟨ad, A3, c3, e, hx0, hx1, hx2, hx3, hl3, hC3⟩ := at_T26 HC.out.1 (i : Int) (by omega) hlt; rw [hrd] at hx0 hx1 hx2 hx3 hl3 hC3 ht; rw [Int.toNat_natCast] at hx0 hx1 hx2 hx3; subst e; replace hx0 := (HB.out.cell (World.block_lt_of_cell? w _ hx0)).trans hx0; replace hx1 := (HB.out.cell (World.block_lt_of_cell? w _ hx1)).trans hx1; replace hx2 := (HB.out.cell (World.block_lt_of_cell? w _ hx2)).trans hx2; replace hx3 := (HB.out.cell (World.block_lt_of_cell? w _ hx3)).trans hx3; clear hrd; generalize n.f2[i] = y at *; have E2 := Aside0.mk ht; have HC3 := Aside0.mk (And.intro hC3 hl3); have hal := below_alloc (Below.refl wr.heap.size wr) (.cells #[.int .i64 y.f0, .int .i64 y.f1.f0, .string y.f1.f1, .slice A3 y.f2.length c3] 26); have HB1 := Aside0.mk (Cl.bstep HB.out hal); have HG1 := Aside0.mk (blk_below HG.out hal); have HS1 := Aside0.mk (blk_below HS.out hal); have HO1 := Aside0.mk (Kd.R_below HO.out hal); have HY1 := Aside0.mk (blk_new wr (.cells #[.int .i64 y.f0, .int .i64 y.f1.f0, .string y.f1.f1, .slice A3 y.f2.length c3] 26)); clear ht hC3 hl3 hal HO HG HS
    obtain ⟨atN, hatN⟩ : ∃ a : Int, wrap64 (at_ + t) = a := ⟨_, rfl⟩
    rw [hatN] at H
    have ei : wrap64 ((i : Int) + 1) = ((i + 1 : Nat) : Int) := (by (unfold wrap64; omega))
    rw [ei] at H; clear ei; by_cases c1 : at_ ≤ a1_0
    ·rw [if_pos c1] at H; have d1 : decide (at_ ≤ a1_0) = true := decide_eq_true c1; by_cases c2 : a1_1 ≤ atN
     ·rw [if_pos c2] at H; have d2 : decide (a1_1 ≤ atN) = true := decide_eq_true c2; have HL2 := Aside0.mk H; clear H
      go_wp2_with (go_at_call 55; refine (tree_width.calls kq2 _ _ _ _ _ _ _ _ (Kd.C_below HC3.out.1 HB1.out) HC3.out.2 E2.out).mono ?_; rintro e w3 ⟨rfl, hb⟩; have HB3 := Aside0.mk (Cl.bstep HB1.out hb); have HG3 := Aside0.mk (blk_below HG1.out hb); have HS3 := Aside0.mk (blk_below HS1.out hb); have HO3 := Aside0.mk (Kd.R_below HO1.out hb); obtain ⟨q0, q1⟩ := Cl.two HS3.out; clear hb)
      go_roundg kq2
      case measure => omega
      case rel => exact ⟨i, at_, atN, i + 1, by go_num, by go_num, by go_num, by go_num, ⟨by have := HK.out; omega⟩, HL2, HG3, HS3, HO3, HB3⟩
     ·rw [if_neg c2] at H; have d2 : decide (a1_1 ≤ atN) = false := decide_eq_false c2; have HL2 := Aside0.mk H; clear H
      go_wp2_with (go_at_call 55; refine (tree_width.calls kq2 _ _ _ _ _ _ _ _ (Kd.C_below HC3.out.1 HB1.out) HC3.out.2 E2.out).mono ?_; rintro e w3 ⟨rfl, hb⟩; have HB3 := Aside0.mk (Cl.bstep HB1.out hb); have HG3 := Aside0.mk (blk_below HG1.out hb); have HS3 := Aside0.mk (blk_below HS1.out hb); have HO3 := Aside0.mk (Kd.R_below HO1.out hb); obtain ⟨q0, q1⟩ := Cl.two HS3.out; clear hb)
      go_roundg kq2
      case measure => omega
      case rel => exact ⟨nx, bg, atN, i + 1, by go_num, by go_num, by go_num, by go_num, ⟨by have := HK.out; omega⟩, HL2, HG3, HS3, HO3, HB3⟩
    ·rw [if_neg c1] at H; have d1 : decide (at_ ≤ a1_0) = false := decide_eq_false c1; have HL2 := Aside0.mk H; clear H
     go_wp2_with (go_at_call 55; refine (tree_width.calls kq2 _ _ _ _ _ _ _ _ (Kd.C_below HC3.out.1 HB1.out) HC3.out.2 E2.out).mono ?_; rintro e w3 ⟨rfl, hb⟩; have HB3 := Aside0.mk (Cl.bstep HB1.out hb); have HG3 := Aside0.mk (blk_below HG1.out hb); have HS3 := Aside0.mk (blk_below HS1.out hb); have HO3 := Aside0.mk (Kd.R_below HO1.out hb); obtain ⟨q0, q1⟩ := Cl.two HS3.out; clear hb)
     go_roundg kq2
     case measure => omega
     case rel => exact ⟨nx, bg, atN, i + 1, by go_num, by go_num, by go_num, by go_num, ⟨by have := HK.out; omega⟩, HL2, HG3, HS3, HO3, HB3⟩
   ·rw [if_neg hlt] at H; have hd1 : decide ((i : Int) < (n.f2.length : Int)) = false := decide_eq_false hlt; by_cases c4 : nx < 0
    ·rw [if_pos c4] at H; simp only [Option.some.injEq, Prod.mk.injEq] at H; obtain ⟨rfl, rfl⟩ := H; have d4 : decide (nx < 0) = true := decide_eq_true c4; go_wp2
     (try rw [Exit.noGoto_ret])
     go_ret2
     exact ⟨_, rfl, HO.out, HB.out⟩
    ·rw [if_neg c4] at H; obtain ⟨hlen, H⟩ := Ut.ite_some H; obtain ⟨hn0, H⟩ := Ut.ite_some H; obtain ⟨hn1, H⟩ := Ut.ite_some H; have HL2 := Aside0.mk H; have d4 : decide (nx < 0) = false := decide_eq_false c4; clear H; obtain ⟨j, rfl⟩ := Int.eq_ofNat_of_zero_le hn0
     have hin : j < n.f2.length := (by omega)
     have hrd : rd_T26 n.f2 (j : Int) = n.f2[j] := (by simp [rd_T26, hin])
     obtain ⟨ad, A3, c3, e, hx0, hx1, hx2, hx3, hl3, hC3⟩ := at_T26 HC.out.1 (j : Int) (by omega) hn1; rw [hrd] at hx0 hx1 hx2 hx3 hl3 hC3; rw [Int.toNat_natCast] at hx0 hx1 hx2 hx3; subst e; have h2 := HL2.out; rw [hrd] at h2; have HL3 := Aside0.mk h2; clear h2 HL2 hrd; generalize n.f2[j] = y at *; have HC3 := Aside0.mk (And.intro hC3 hl3); have HX := Aside0.mk (And.intro hx0 (And.intro hx1 (And.intro hx2 hx3))); clear hC3 hl3 hx0 hx1 hx2 hx3; obtain ⟨z0, z1, z2, z3⟩ := Cl.four HG.out
     go_wp2_with (first | (at_builtin; refine Kd.R_append (Kd.int .i64) (w0 := w) w.heap.size rfl (.tmp 66) (.tmp 68) 30 3 (.int .i64 0) 8 rfl Try.underlying30 tree_Cover.info rfl (by decide) (by omega) u6 acc (j : Int) [.int .i64 (j : Int)] (fun _ => True) (fun _ => False) rfl rfl rfl (fun _ hk => hk.elim) (fun _ _ => trivial) HO.out HB.out (below_size HB.out) (by omega) ?_; intro v8 w4 ho hb hg hat; have HB4 := Aside0.mk hb; have HO4 := Aside0.mk ho; have HG4 := Aside0.mk (blk_grown HG.out hg (Kd.R_ne HO.out HG.out (by decide))); have HS4 := Aside0.mk (blk_grown HS.out hg (Kd.R_ne HO.out HS.out (by decide))); clear ho hb hg hat; obtain ⟨z0, z1, z2, z3⟩ := Cl.four HG4.out; obtain ⟨f0, f1, f2, f3⟩ := Cl.ffour HG4.out; obtain ⟨x0, x1, x2, x3⟩ := HX.out; replace x0 := (HB4.out.cell (World.block_lt_of_cell? w _ x0)).trans x0; replace x1 := (HB4.out.cell (World.block_lt_of_cell? w _ x1)).trans x1; replace x2 := (HB4.out.cell (World.block_lt_of_cell? w _ x2)).trans x2; replace x3 := (HB4.out.cell (World.block_lt_of_cell? w _ x3)).trans x3))
     go_roundg kq2
     case measure => have := HK.out; omega
     case rel => exact ⟨y, A3, c3, acc ++ [(j : Int)], bg, by go_num, HL3, HC3, ⟨by refine blk_put (cs := #[.int .i64 y.f0, .int .i64 y.f1.f0, .string y.f1.f1, .slice (some ad) n.f2.length cc]) ?_ 3 _ rfl; refine blk_put (cs := #[.int .i64 y.f0, .int .i64 y.f1.f0, .string n.f1.f1, .slice (some ad) n.f2.length cc]) ?_ 2 _ rfl; refine blk_put (cs := #[.int .i64 y.f0, .int .i64 n.f1.f0, .string n.f1.f1, .slice (some ad) n.f2.length cc]) ?_ 1 _ rfl; refine blk_put (cs := #[.int .i64 n.f0, .int .i64 n.f1.f0, .string n.f1.f1, .slice (some ad) n.f2.length cc]) ?_ 0 _ rfl; exact HG4.out⟩, ⟨(Below.heap_setCell _ _ _ _ (by simp)).trans ((Below.heap_setCell _ _ _ _ (by simp)).trans ((Below.heap_setCell _ _ _ _ (by simp)).trans ((Below.heap_setCell _ _ _ _ (by simp)).trans (HS4.out))))⟩, ⟨by refine Kd.R_set (Kd.R_set (Kd.R_set (Kd.R_set HO4.out HG4.out ?ht 0 _) (blk_put HG4.out 0 _ rfl) ?ht 1 _) (blk_put (blk_put HG4.out 0 _ rfl) 1 _ rfl) ?ht 2 _) (blk_put (blk_put (blk_put HG4.out 0 _ rfl) 1 _ rfl) 2 _ rfl) ?ht 3 _; intro q hq e; subst e; revert hq; decide⟩, ⟨by repeat (first | exact HB4.out | refine below_set ?_ (Nat.le_refl _))⟩⟩

end Go.Proofs.Ytnafnieocpkkhaa.P

set_option linter.unusedVariables false
set_option linter.unusedSimpArgs false
namespace Go.Proofs.Ytnafnieocpkkhaa.P
open Go.RowKit Go.Proofs.YtnafnieocpkkhaaW.PrintWords Go.Proofs.YtnafnieocpkkhaaW.PrintLast Go.Proofs.YtnafnieocpkkhaaW.PrintMore
def isF (n : Nd) : Prop := ∃ m, fo m n = true
theorem isF.leaf {n : Nd} (h : isF n) (h1 : n.f0 = 1) : n.f2 = [] ∧ 0 < n.f1.f1.size := by
 obtain ⟨m, h⟩ := h
 cases m with
 | zero => cases h
 | succ m =>
  rw [fo, if_pos h1, Bool.and_eq_true, decide_eq_true_eq] at h; exact ⟨List.eq_nil_of_length_eq_zero h.1, (of_decide_eq_true h.2).1⟩
theorem isF.node {n : Nd} (h : isF n) (h1 : ¬ n.f0 = 1) : n.f1.f1.size = 0 ∧ n.f1.f0 = 0 := by
 obtain ⟨m, h⟩ := h
 cases m with
 | zero => cases h
 | succ m =>
  rw [fo, if_neg h1, Bool.and_eq_true, Bool.and_eq_true, Bool.and_eq_true, Bool.and_eq_true, beq_iff_eq, beq_iff_eq, Lib.toList_data] at h; have := congrArg List.length h.1.1.2.2; rw [isize] at this; exact ⟨this, h.1.1.2.1⟩
theorem isF.kid {n x : Nd} (h : isF n) (hx : x ∈ n.f2) : isF x := by
 obtain ⟨m, h⟩ := h
 cases m with
 | zero => cases h
 | succ m =>
  rw [fo] at h
  split at h
  ·rw [Bool.and_eq_true, decide_eq_true_eq] at h; rw [List.eq_nil_of_length_eq_zero h.1] at hx
   cases hx
  ·rw [Bool.and_eq_true] at h; exact ⟨m, List.all_eq_true.1 h.2 x hx⟩
theorem isF.at {p : List Int} {n x : Nd} {o : Nat} (h : isF n) (hx : atp p n = some (x, o)) : isF x := by
 obtain ⟨m, h⟩ := h; exact atp_fo h hx
theorem isF.wd {n : Nd} (h : isF n) (h1 : ¬ n.f0 = 1) : P.wd n = wds n.f2 := by
 rw [wd_wds, (h.node h1).1, Nat.zero_add]
theorem isF.lv : ∀ {n : Nd}, isF n → (0 < lv n ↔ 0 < P.wd n) := by
 suffices H : ∀ n, isF n → (0 < P.lv n ↔ 0 < P.wd n) from fun {n} => H n
 refine Nd.ind ?_; intro n ih h; rw [lv_eq]; by_cases h1 : n.f0 = 1
 ·rw [if_pos h1, wd_wds]; have := (h.leaf h1).2
  omega
 ·rw [if_neg h1, h.wd h1]; unfold wds
  have : ∀ l : List Nd, (∀ x ∈ l, x ∈ n.f2) → (0 < (l.map P.lv).sum ↔ 0 < (l.map P.wd).sum) := by
   intro l
   induction l with
   | nil => intro _; exact Iff.rfl
   | cons y r ihl =>
    intro hl; have e1 := ih y (hl y List.mem_cons_self) (h.kid (hl y List.mem_cons_self)); have e2 := ihl (fun z hz => hl z (List.mem_cons_of_mem _ hz)); simp only [List.map_cons, List.sum_cons]
    omega
  exact this n.f2 (fun _ h => h)
def holds (F T a : Nat) (l : List Nd) (j : Nat) (x : Nd) : Prop := l[j]? = some x ∧ a + wds (l.take j) ≤ F ∧ T ≤ a + wds (l.take j) + wd x
end Go.Proofs.Ytnafnieocpkkhaa.P

namespace Go.Proofs.Ytnafnieocpkkhaa.P
open Go.RowKit Go.Proofs.YtnafnieocpkkhaaW.PrintWords Go.Proofs.YtnafnieocpkkhaaW.PrintLast Go.Proofs.YtnafnieocpkkhaaW.PrintMore
attribute [local go_sem] max2_int min2_int max_two min_two max_three min_three max_four min_four
set_option linter.unusedVariables false
set_option linter.unusedSimpArgs false

def tree_put.go : List Int → S26 → S26 → Option (S26)
 | [], _, by_ => some by_
 | i :: p, n, by_ => if n.f2.length < 1000000 then (if 0 ≤ i then (n.f2[i.toNat]?).bind fun x => (tree_put.go p x by_).bind fun y => some ⟨n.f0, n.f1, n.f2.set i.toNat y⟩ else none) else none
/-- A row whose elements' cells are told by S alone, once for all. -/
def tree_put.stat (S : S26 → List Value → Prop) : Kd (S26) where
 sz := 4
 E := []
 K := fun _ x cs => S x cs ∧ cs.length = 4 ∧ ∀ u ∈ cs, u.oneCell' = true
 M := fun _ _ _ x cs => S x cs ∧ cs.length = 4 ∧ ∀ u ∈ cs, u.oneCell' = true
 K_len := fun h => h.2.1
 K_one := fun h => h.2.2
 K_below := fun _ h => h
 K_of_M := fun h => h
 M_mono := fun _ h => h
 M_bound := fun h => h
 M_move := fun _ h => h
 M_lower := fun _ h => h
theorem tree_put.stat_imp {w : World} {base e : Nat} {ok : Nat → Prop} {v : Value} {l : List (S26)} {S S' : S26 → List Value → Prop} (hS : ∀ x cs, S x cs → S' x cs) (h : Kd.R (tree_put.stat S) e w base ok v l) : Kd.R (tree_put.stat S') e w base ok v l := by
 obtain ⟨h0, inner, ho, hl, hr⟩ := h; exact ⟨h0, inner, ho, hl, fun j p hj => ⟨hS _ _ (hr j p hj).1, (hr j p hj).2⟩⟩
theorem tree_put.stat_F {W : World} {base g n c : Nat} {okf : Nat → Prop} {l : List (S26)} {S : S26 → List Value → Prop} (h : Kd.R (tree_put.stat S) 26 W base (fun _ => True) (.slice (some ⟨g, 0, none⟩) n c) l) (hS : ∀ x cs, S x cs → Kd.FK k26 W okf x cs) (hg : okf g) :
  Kd.F k26 W okf (some ⟨g, 0, none⟩) l.length l := by
 intro W' hW
 have hlt : g < W.heap.size := by
  obtain ⟨inner, ho⟩ := Kd.R_own h; exact own_lt ho g (by simp [Value.ownBlock])
 have h2 : Kd.R (tree_put.stat S) 26 W' base (fun _ => True) (.slice (some ⟨g, 0, none⟩) n c) l := by
  obtain ⟨h0, inner, ho, hr⟩ := h
  exact ⟨h0, inner, own_move ho (fun k hk => by
   have : g = k := (by simpa [Value.ownBlock] using hk)
   subst this
   exact hW g hg hlt), hr⟩
 obtain ⟨A, c', e, hc, hC⟩ := Kd.R_reads h2; injection e with e1 _ _; subst e1; obtain ⟨q1, q2, q3⟩ := hC; refine ⟨q1, q2, fun hp => ?_⟩; obtain ⟨ad, e, hh⟩ := q3 hp; refine ⟨ad, e, fun j p hj => ?_⟩; obtain ⟨cs, h1, h3, h4⟩ := hh j p hj; exact ⟨cs, h1, (hS _ _ h3.1) W' hW, h4⟩
set_option maxHeartbeats 8000000 in
set_option maxRecDepth 100000 in
/-- slices.Clone of Nodes: the row is new, the Nodes' cells are as they were. -/
theorem tree_put.row (w : World) (S : S26 → List Value → Prop) (l : List (S26)) (A : Option Addr) (c : Nat) (hl : l.length < 1000000) (hC : ReadsRow (fun x cs => S x cs ∧ cs.length = 4 ∧ ∀ u ∈ cs, u.oneCell' = true) 4 w A l.length l) (hc : l.length ≤ c) :
  Calls Try.prog 103 #[.slice A l.length c] w fun e w' => ∃ v', e = .returned v' ∧ Kd.R (tree_put.stat S) 26 w' w.heap.size (fun _ => True) v' l ∧ Below w.heap.size w w' := by
 have hu := Try.underlying24
 have hq := fun w n => Lib.run_eql_slice_nil (P := Try.prog) w 24 26 A n c 0 0 hu
 have HC := Aside0.mk hC; clear hC
 cases A with
 | none =>
  have h0 : l = [] := by
   rcases Nat.eq_zero_or_pos l.length with h0 | h0
   ·exact List.length_eq_zero_iff.mp h0
   ·obtain ⟨ad, e, _⟩ := HC.out.2.2 h0
    cases e
  subst h0; go_enter Try.func103, Try.ntmps103; go_wp2; go_ret; exact ⟨_, rfl, Kd.R_nil _ _ _ _ _, Below.refl _ _⟩
 | some ad =>
  have hE := Aside0.mk (tree_Clone.lit (tree_put.stat S) (W := w) (base := w.heap.size) (e := 26) (Nat.le_refl _)); have hA := Aside0.mk (below_alloc (Below.refl w.heap.size w) (.cells #[] 26))
  have hRR : Aside0 (ReadsRow (fun x cs => S x cs ∧ cs.length = 4 ∧ ∀ u ∈ cs, u.oneCell' = true) 4 (w.alloc (.cells #[] 26)) (some ad) l.length l) := ⟨ReadsRow.imp_ HC.out hA.out (fun _ _ h => h)⟩
  clear HC; go_enter Try.func103, Try.ntmps103
  go_wp2_with (first | (at_builtin; refine Kd.R_append_rows (tree_put.stat S) (w0 := w) w.heap.size rfl (.tmp 5) (.tmp 6) 24 26 (.agg #[.int .i64 0, .int .i64 0, .string ⟨#[]⟩, .slice none 0 0]) 56 rfl Try.underlying24 tree_Clone.infoNode rfl (show 0 < 4 by decide) (by omega) (.slice (some ⟨w.heap.size, 0, none⟩) 0 0) [] l (some ad) l.length c (fun _ => True) (fun _ => False) rfl rfl hE.out hRR.out (fun x cs h => h) (fun _ hk => hk.elim) (fun _ _ => trivial) hA.out hA.out.size (show (([] : List (S26)).length + l.length) * 56 ≤ 140737488355328 by rw [List.length_nil]; omega) ?_; intro v1 w1 hr hb hg hat; have HR := Aside0.mk hr; have HB2 := Aside0.mk hb; clear hr hb hg hat))
  go_ret; exact ⟨_, rfl, by simpa using HR.out, HB2.out⟩
def tree_put.Holds (p : List Int) : Prop := ∀ (n b r : S26) (A Ap Ab : Option Addr) (c cp cb : Nat) (Pn Pb : Nat → Prop) (w : World), tree_put.go p n b = some r → n.f2.length ≤ c → Kd.F k26 w Pn A n.f2.length n.f2 → p.length ≤ cp → Kd.C (Kd.int .i64) w Ap p.length p → b.f2.length ≤ cb → Kd.F k26 w Pb Ab b.f2.length b.f2 →
 Calls Try.prog 77 #[.agg #[.int .i64 n.f0, .int .i64 n.f1.f0, .string n.f1.f1, .slice A n.f2.length c], .slice Ap p.length cp, .agg #[.int .i64 b.f0, .int .i64 b.f1.f0, .string b.f1.f1, .slice Ab b.f2.length cb]] w fun e w' => ∃ A' c', e = .returned (.agg #[.int .i64 r.f0, .int .i64 r.f1.f0, .string r.f1.f1, .slice A' r.f2.length c']) ∧ r.f2.length ≤ c' ∧ Kd.F k26 w' (fun k => (Pn k ∨ Pb k) ∨ w.heap.size ≤ k) A' r.f2.length r.f2 ∧ Below w.heap.size w w'
set_option maxHeartbeats 8000000 in
set_option maxRecDepth 100000 in
theorem tree_put.walk_ok : ∀ p, tree_put.Holds p := by
 have hu := Try.underlying26; intro p
 induction p with
 | nil =>
  intro n b r A Ap Ab c cp cb Pn Pb w h hc hC hcp hCp hcb hCb; rw [tree_put.go, Option.some.injEq] at h; subst h; have HC := Aside0.mk hCb; clear hC hCp hCb; go_enter Try.func77, Try.ntmps77; go_wp2_with fail; refine bodyPost_ret (results_cell_row rfl _ _ (w.heap.size + 1 + 1) 26 #[.int .i64 b.f0, .int .i64 b.f1.f0, .string b.f1.f1, .slice Ab b.f2.length cb] (0, 0) _ rfl (by simpa using blk_new ((w.alloc (.cells #[.int .i64 n.f0, .int .i64 n.f1.f0, .string n.f1.f1, .slice A n.f2.length c] 26)).alloc (.cells #[.int .i64 b.f0, .int .i64 b.f1.f0, .string b.f1.f1, .slice Ab b.f2.length cb] 26)) (.cells #[.int .i64 b.f0, .int .i64 b.f1.f0, .string b.f1.f1, .slice Ab b.f2.length cb] 26)) Try.underlying26 rfl (by kernel_rfl)) rfl ?_; refine ⟨Ab, cb, rfl, hcb, ?_, below_alloc (below_alloc (below_alloc (Below.refl _ _) _) _) _⟩; exact Kd.F_mono (Kd.F_below HC.out (below_alloc (below_alloc (below_alloc (Below.refl _ _) _) _) _)) (fun k hk => .inl (.inr hk))
 | cons i p ih =>
  intro n b r A Ap Ab c cp cb Pn Pb w h hc hC hcp hCp hcb hCb; rw [tree_put.go] at h; obtain ⟨hlen, h⟩ := Ut.ite_some h; obtain ⟨h0, h⟩ := Ut.ite_some h; obtain ⟨x, hx, h⟩ := Option.bind_eq_some_iff.mp h; obtain ⟨y, hy, h⟩ := Option.bind_eq_some_iff.mp h; injection h with h; subst h; obtain ⟨iN, rfl⟩ := Int.eq_ofNat_of_zero_le h0; rw [Int.toNat_natCast] at hx; obtain ⟨pad, e, hp0⟩ := Kd.at_int hCp 0 (by omega) (by rw [List.length_cons]; omega); subst e; have hp0 : w.cell? pad = some (.int .i64 (iN : Int)) := hp0; have hCp2 := Kd.C_drop (m := 1) (c := cp) hCp (by simp) (by omega)
  have hil : iN < n.f2.length := by
   rcases Nat.lt_or_ge iN n.f2.length with h | h
   ·exact h
   ·rw [List.getElem?_eq_none h] at hx; cases hx
  have HW3 := Aside0.mk (show Below w.heap.size w (((w.alloc (.cells #[.int .i64 n.f0, .int .i64 n.f1.f0, .string n.f1.f1, .slice A n.f2.length c] 26)).alloc (.cells #[.int .i64 b.f0, .int .i64 b.f1.f0, .string b.f1.f1, .slice Ab b.f2.length cb] 26)).alloc (.cells #[.int .i64 0, .int .i64 0, .string ⟨#[]⟩, .slice none 0 0] 26)) from below_alloc (below_alloc (below_alloc (Below.refl _ _) _) _) _); have HS3 := Aside0.mk (show (((w.alloc (.cells #[.int .i64 n.f0, .int .i64 n.f1.f0, .string n.f1.f1, .slice A n.f2.length c] 26)).alloc (.cells #[.int .i64 b.f0, .int .i64 b.f1.f0, .string b.f1.f1, .slice Ab b.f2.length cb] 26)).alloc (.cells #[.int .i64 0, .int .i64 0, .string ⟨#[]⟩, .slice none 0 0] 26)).heap.size = w.heap.size + 3 by simp); have H1 := Aside0.mk (show (((w.alloc (.cells #[.int .i64 n.f0, .int .i64 n.f1.f0, .string n.f1.f1, .slice A n.f2.length c] 26)).alloc (.cells #[.int .i64 b.f0, .int .i64 b.f1.f0, .string b.f1.f1, .slice Ab b.f2.length cb] 26)).alloc (.cells #[.int .i64 0, .int .i64 0, .string ⟨#[]⟩, .slice none 0 0] 26)).heap[w.heap.size]? = some (.cells #[.int .i64 n.f0, .int .i64 n.f1.f0, .string n.f1.f1, .slice A n.f2.length c] 26) from blk_alloc (blk_alloc (blk_new w _) _) _); have H2 := Aside0.mk (show (((w.alloc (.cells #[.int .i64 n.f0, .int .i64 n.f1.f0, .string n.f1.f1, .slice A n.f2.length c] 26)).alloc (.cells #[.int .i64 b.f0, .int .i64 b.f1.f0, .string b.f1.f1, .slice Ab b.f2.length cb] 26)).alloc (.cells #[.int .i64 0, .int .i64 0, .string ⟨#[]⟩, .slice none 0 0] 26)).heap[w.heap.size + 1]? = some (.cells #[.int .i64 b.f0, .int .i64 b.f1.f0, .string b.f1.f1, .slice Ab b.f2.length cb] 26) from blk_alloc (by simpa using blk_new (w.alloc (.cells #[.int .i64 n.f0, .int .i64 n.f1.f0, .string n.f1.f1, .slice A n.f2.length c] 26)) (.cells #[.int .i64 b.f0, .int .i64 b.f1.f0, .string b.f1.f1, .slice Ab b.f2.length cb] 26)) _); have H3 := Aside0.mk (show (((w.alloc (.cells #[.int .i64 n.f0, .int .i64 n.f1.f0, .string n.f1.f1, .slice A n.f2.length c] 26)).alloc (.cells #[.int .i64 b.f0, .int .i64 b.f1.f0, .string b.f1.f1, .slice Ab b.f2.length cb] 26)).alloc (.cells #[.int .i64 0, .int .i64 0, .string ⟨#[]⟩, .slice none 0 0] 26)).heap[w.heap.size + 1 + 1]? = some (.cells #[.int .i64 0, .int .i64 0, .string ⟨#[]⟩, .slice none 0 0] 26) by simpa using blk_new ((w.alloc (.cells #[.int .i64 n.f0, .int .i64 n.f1.f0, .string n.f1.f1, .slice A n.f2.length c] 26)).alloc (.cells #[.int .i64 b.f0, .int .i64 b.f1.f0, .string b.f1.f1, .slice Ab b.f2.length cb] 26)) (.cells #[.int .i64 0, .int .i64 0, .string ⟨#[]⟩, .slice none 0 0] 26)); have ROW := Aside0.mk (tree_put.row (((w.alloc (.cells #[.int .i64 n.f0, .int .i64 n.f1.f0, .string n.f1.f1, .slice A n.f2.length c] 26)).alloc (.cells #[.int .i64 b.f0, .int .i64 b.f1.f0, .string b.f1.f1, .slice Ab b.f2.length cb] 26)).alloc (.cells #[.int .i64 0, .int .i64 0, .string ⟨#[]⟩, .slice none 0 0] 26)) (fun (z : S26) cs => Kd.FK k26 w (fun k => Pn k ∧ k < w.heap.size) z cs) n.f2 A c hlen (ReadsRow.imp_ (Kd.F_rows (Kd.F_bound hC)) HW3.out (fun z cs h => ⟨h, (k26).K_len (Kd.FK_now h), (k26).K_one (Kd.FK_now h)⟩)) hc); have IH := Aside0.mk ih; have HY := Aside0.mk hy; have HX := Aside0.mk hx; have HC := Aside0.mk hC; have HCP := Aside0.mk hCp2; have HP0 := Aside0.mk hp0; have HCB := Aside0.mk hCb
  have hne : ((p.length : Int) + 1 == 0) = false := (by simp; omega)
  have hi1 : (iN : Int) < (n.f2.length : Int) := (by omega)
  clear ih hx hy hC hCp hCp2 hp0 hCb; go_enter Try.func77, Try.ntmps77; go_wp2_with fail; refine ROW.out.mono ?_; rintro e w1 ⟨v1, rfl, hR1, hb1⟩; obtain ⟨g, cap, hv, hbg, hgl, cg, hcg⟩ := Kd.R_form hR1 (by omega); have HCG := Aside0.mk hcg; subst hv; have HR1 := Aside0.mk hR1; have HB1 := Aside0.mk hb1; have k1 := blk_below H1.out hb1; have k2 := blk_below H2.out hb1; have k3 := blk_below H3.out hb1; have HK := Aside0.mk (And.intro k1 (And.intro k2 k3)); have s0 : w1.cell? ⟨w.heap.size, 3, none⟩ = some (.slice A n.f2.length c) := Lib.cell_of_heap k1 3; have s1 := Lib.frozen_of_heap k1 3; clear hR1 hb1 ROW k1 k2 k3 hcg; go_wp2_with fail; obtain ⟨xc, hxl, hM, hcc⟩ := Kd.R_get HR1.out n (iN : Int) (by omega) (by omega); rw [Int.toNat_natCast, List.getD_eq_getElem?_getD, HX.out] at hM; rw [Int.toNat_natCast] at hcc; have hK : Kd.FK k26 w (fun k => Pn k ∧ k < w.heap.size) x xc := hM.1; obtain ⟨A3, c3, rfl, hl3, hC3⟩ := k26_openF hK
  have hgs : w.heap.size + 3 ≤ g := (by have := HS3.out; omega)
  have hng : g ≠ w.heap.size := (by omega)
  have had : ∀ j, (⟨g, 0, none⟩ : Addr).add (iN * 4 + j) = ⟨g, iN * 4 + j, none⟩ := fun j => by unfold Addr.add; simp; try omega
  have x0 : w1.cell? ⟨g, iN * 4 + 0, none⟩ = some (.int .i64 x.f0) := (by have hq := hcc 0 _ rfl; rw [show (tree_put.stat (fun (z : S26) cs => Kd.FK k26 w (fun k => Pn k ∧ k < w.heap.size) z cs)).sz = 4 from rfl, had] at hq; exact hq)
  have x1 : w1.cell? ⟨g, iN * 4 + 1, none⟩ = some (.int .i64 x.f1.f0) := (by have hq := hcc 1 _ rfl; rw [show (tree_put.stat (fun (z : S26) cs => Kd.FK k26 w (fun k => Pn k ∧ k < w.heap.size) z cs)).sz = 4 from rfl, had] at hq; exact hq)
  have x2 : w1.cell? ⟨g, iN * 4 + 2, none⟩ = some (.string x.f1.f1) := (by have hq := hcc 2 _ rfl; rw [show (tree_put.stat (fun (z : S26) cs => Kd.FK k26 w (fun k => Pn k ∧ k < w.heap.size) z cs)).sz = 4 from rfl, had] at hq; exact hq)
  have x3 : w1.cell? ⟨g, iN * 4 + 3, none⟩ = some (.slice A3 x.f2.length c3) := (by have hq := hcc 3 _ rfl; rw [show (tree_put.stat (fun (z : S26) cs => Kd.FK k26 w (fun k => Pn k ∧ k < w.heap.size) z cs)).sz = 4 from rfl, had] at hq; exact hq)
  have HW1 := Aside0.mk (HW3.out.trans (HB1.out.mono HW3.out.size)); obtain ⟨k1, k2, k3⟩ := HK.out; have hplt : pad.block < w.heap.size := World.block_lt_of_cell? w _ HP0.out; have p0 := (HW1.out.cell hplt).trans HP0.out
  have far : ∀ (a : Addr) (u : Value), a.block ≠ w.heap.size → w1.cell? a = some u → (w1.setCell ⟨w.heap.size, 3, none⟩ (.slice (some ⟨g, 0, none⟩) n.f2.length cap)).cell? a = some u := fun a u ha h => (World.cell?_setCell_far w1 _ a _ (fun e => ha e.symm)).trans h
  have hS4 : Aside0 ((fun w' : World => w'.cell? ⟨w.heap.size, 3, none⟩ = some (.slice (some ⟨g, 0, none⟩) n.f2.length cap) ∧ w'.cell? pad = some (.int .i64 (iN : Int)) ∧ w'.cell? ⟨w.heap.size + 1, 0, none⟩ = some (.int .i64 b.f0) ∧ w'.cell? ⟨w.heap.size + 1, 1, none⟩ = some (.int .i64 b.f1.f0) ∧ w'.cell? ⟨w.heap.size + 1, 2, none⟩ = some (.string b.f1.f1) ∧ w'.cell? ⟨w.heap.size + 1, 3, none⟩ = some (.slice Ab b.f2.length cb) ∧ w'.cell? ⟨g, iN * 4, none⟩ = some (.int .i64 x.f0) ∧ w'.cell? ⟨g, iN * 4 + 1, none⟩ = some (.int .i64 x.f1.f0) ∧ w'.cell? ⟨g, iN * 4 + 2, none⟩ = some (.string x.f1.f1) ∧ w'.cell? ⟨g, iN * 4 + 3, none⟩ = some (.slice A3 x.f2.length c3)) (w1.setCell ⟨w.heap.size, 3, none⟩ (.slice (some ⟨g, 0, none⟩) n.f2.length cap))) := ⟨by
   refine ⟨by rw [Lib.cell_of_heap (blk_put (cs' := #[.int .i64 n.f0, .int .i64 n.f1.f0, .string n.f1.f1, .slice (some ⟨g, 0, none⟩) n.f2.length cap]) k1 3 (.slice (some ⟨g, 0, none⟩) n.f2.length cap) rfl) 3]; rfl, far _ _ (by omega) p0, far _ _ (by simp) (Lib.cell_of_heap k2 0), far _ _ (by simp) (Lib.cell_of_heap k2 1), far _ _ (by simp) (Lib.cell_of_heap k2 2), far _ _ (by simp) (Lib.cell_of_heap k2 3), far _ _ hng x0, far _ _ hng x1, far _ _ hng x2, far _ _ hng x3⟩⟩
  have HR4 : Aside0 (Kd.R (tree_put.stat (fun (z : S26) cs => Kd.FK k26 w (fun k => Pn k ∧ k < w.heap.size) z cs)) 26 (w1.setCell ⟨w.heap.size, 3, none⟩ (.slice (some ⟨g, 0, none⟩) n.f2.length cap)) (w.heap.size + 3) (fun _ => True) (.slice (some ⟨g, 0, none⟩) n.f2.length cap) n.f2) := ⟨Kd.R_mono (Kd.R_far (p := ⟨w.heap.size, 3, none⟩) (Kd.R_mono (Kd.R_bound (Kd.R_lower HR1.out (show w.heap.size + 3 ≤ _ by rw [HS3.out]; exact Nat.le_refl _))) (fun k hk => hk.2.1)) (fun k (hk : w.heap.size + 3 ≤ k) (e : k = w.heap.size) => by omega) _) (fun _ _ => trivial)⟩
  have HW4 : Aside0 (Below w.heap.size w (w1.setCell ⟨w.heap.size, 3, none⟩ (.slice (some ⟨g, 0, none⟩) n.f2.length cap))) := ⟨below_set (HW3.out.trans (HB1.out.mono HW3.out.size)) (Nat.le_refl _)⟩
  have HK4 : Aside0 ((w1.setCell ⟨w.heap.size, 3, none⟩ (.slice (some ⟨g, 0, none⟩) n.f2.length cap)).heap[w.heap.size]? = some (.cells #[.int .i64 n.f0, .int .i64 n.f1.f0, .string n.f1.f1, .slice (some ⟨g, 0, none⟩) n.f2.length cap] 26 (0, 0)) ∧ (w1.setCell ⟨w.heap.size, 3, none⟩ (.slice (some ⟨g, 0, none⟩) n.f2.length cap)).heap[w.heap.size + 1 + 1]? = some (.cells #[.int .i64 0, .int .i64 0, .string ⟨#[]⟩, .slice none 0 0] 26 (0, 0))) := ⟨blk_put k1 3 _ rfl, (Below.heap_setCell w1 ⟨w.heap.size, 3, none⟩ _ (w.heap.size + 1 + 1) (by simp; omega)).trans k3⟩
  have HG4 : Aside0 ((w1.setCell ⟨w.heap.size, 3, none⟩ (.slice (some ⟨g, 0, none⟩) n.f2.length cap)).heap[g]? = some (.cells cg 26 (0, 0))) := ⟨(Below.heap_setCell w1 ⟨w.heap.size, 3, none⟩ _ g (by simpa using hng)).trans HCG.out⟩
  have HZ4 : Aside0 (w.heap.size + 3 ≤ (w1.setCell ⟨w.heap.size, 3, none⟩ (.slice (some ⟨g, 0, none⟩) n.f2.length cap)).heap.size) := ⟨by have h1 := HB1.out.size; have h2 := HS3.out; rw [show (w1.setCell ⟨w.heap.size, 3, none⟩ (.slice (some ⟨g, 0, none⟩) n.f2.length cap)).heap.size = w1.heap.size by simp [World.setCell]]; omega⟩
  have HL4 : Aside0 (g < (w1.setCell ⟨w.heap.size, 3, none⟩ (.slice (some ⟨g, 0, none⟩) n.f2.length cap)).heap.size) := ⟨by simpa [World.setCell] using hgl⟩
  clear x0 x1 x2 x3 s0 s1 p0 k1 k2 k3 far hM hcc hK had HR1 HB1 HW1 HK H1 H2 H3 HX HCG; generalize w1.setCell ⟨w.heap.size, 3, none⟩ (.slice (some ⟨g, 0, none⟩) n.f2.length cap) = W4 at hS4 HR4 HW4 HK4 HG4 HL4 HZ4 ⊢
  have hcases : (cp = 1) = True ∨ (cp = 1) = False := (by by_cases h : cp = 1 <;> simp [h])
  rcases hcases with hc1 | hc1
  all_goals
   have hCP2 := HCP.out; simp only [hc1, if_true, if_false] at hCP2; have HCP2 := Aside0.mk hCP2; clear hCP2 HCP; have hw4 : Below w.heap.size w W4.drew := below_drew1 HW4.out; have HCall := Aside0.mk (IH.out x b y A3 _ Ab c3 (cp - 1) cb (fun k => Pn k ∧ k < w.heap.size) (fun k => Pb k ∧ k < w.heap.size) W4.drew HY.out hl3 (Kd.F_below hC3 hw4) (by simp at hcp; omega) (Kd.C_below HCP2.out hw4) hcb (Kd.F_below (Kd.F_bound HCB.out) hw4)); obtain ⟨q0, q1, q2, q3, q4, q5, x0, x1, x2, x3⟩ := hS4.out
   have hSd : (fun w' : World => w'.cell? ⟨w.heap.size, 3, none⟩ = some (.slice (some ⟨g, 0, none⟩) n.f2.length cap) ∧ w'.cell? pad = some (.int .i64 (iN : Int)) ∧ w'.cell? ⟨w.heap.size + 1, 0, none⟩ = some (.int .i64 b.f0) ∧ w'.cell? ⟨w.heap.size + 1, 1, none⟩ = some (.int .i64 b.f1.f0) ∧ w'.cell? ⟨w.heap.size + 1, 2, none⟩ = some (.string b.f1.f1) ∧ w'.cell? ⟨w.heap.size + 1, 3, none⟩ = some (.slice Ab b.f2.length cb)) W4.drew := ⟨q0, q1, q2, q3, q4, q5⟩
   have x0 : W4.drew.cell? ⟨g, iN * 4, none⟩ = some (.int .i64 x.f0) := x0; have x1 : W4.drew.cell? ⟨g, iN * 4 + 1, none⟩ = some (.int .i64 x.f1.f0) := x1; have x2 : W4.drew.cell? ⟨g, iN * 4 + 2, none⟩ = some (.string x.f1.f1) := x2; have x3 : W4.drew.cell? ⟨g, iN * 4 + 3, none⟩ = some (.slice A3 x.f2.length c3) := x3; have HXX := Aside0.mk (And.intro x0 (And.intro x1 (And.intro x2 x3)))
   have f4 : Aside0 (∀ (W : World) (a : Addr) (u v0 v1 v2 v3 : Value), a.block ≠ g → W.cell? a = some u → ((((W.setCell ⟨g, iN * 4, none⟩ v0).setCell ⟨g, iN * 4 + 1, none⟩ v1).setCell ⟨g, iN * 4 + 2, none⟩ v2).setCell ⟨g, iN * 4 + 3, none⟩ v3).cell? a = some u) := ⟨fun W a u v0 v1 v2 v3 ha h => (World.cell?_setCell_far _ _ a _ (fun e => ha e.symm)).trans ((World.cell?_setCell_far _ _ a _ (fun e => ha e.symm)).trans ((World.cell?_setCell_far _ _ a _ (fun e => ha e.symm)).trans ((World.cell?_setCell_far _ _ a _ (fun e => ha e.symm)).trans h)))⟩
   have hd0 : w.heap.size ≠ g := (by omega)
   have hd1 : w.heap.size + 1 ≠ g := (by omega)
   have hd2 : pad.block ≠ g := (by omega)
   dsimp only at hSd
   have hs1 : (1 : Int) ≤ (p.length : Int) + 1 := (by omega)
   have hs2 : (0 : Int) < (p.length : Int) + 1 := (by omega)
   have hs3 : (0 : Int) ≤ (iN : Int) := (by omega)
   clear hC3 hw4 q0 q1 q2 q3 q4 q5 hS4 hplt; refine start_ (n := 18) (S := (fun w' : World => w'.cell? ⟨w.heap.size, 3, none⟩ = some (.slice (some ⟨g, 0, none⟩) n.f2.length cap) ∧ w'.cell? pad = some (.int .i64 (iN : Int)) ∧ w'.cell? ⟨w.heap.size + 1, 0, none⟩ = some (.int .i64 b.f0) ∧ w'.cell? ⟨w.heap.size + 1, 1, none⟩ = some (.int .i64 b.f1.f0) ∧ w'.cell? ⟨w.heap.size + 1, 2, none⟩ = some (.string b.f1.f1) ∧ w'.cell? ⟨w.heap.size + 1, 3, none⟩ = some (.slice Ab b.f2.length cb))) (ds := [17]) #[false, false, false, false, false, false, false, false, false, false, false, false, false, false, false, false, false, false] (by kernel_rfl) rfl rfl hSd (fun hHeld => ?_); refine take_ (i := 0) (N := some 15) (v := ?_) (a' := ?_) #[true, false, false, false, false, false, false, false, false, false, false, false, false, false, false, false, false, false] rfl rfl (by kernel_rfl) (fun _ _ _ h => h) (Or.inl ⟨by rfl, ?_⟩) hHeld ?_ ?_; rotate_left
   ·rintro w' ⟨s0, s1, s2, s3, s4, s5⟩; go_simp; with_reducible rfl
   rotate_left
   ·simp only [Act.put, List.setIfInBounds_toArray, List.set_cons_zero, List.set_cons_succ, i64_w, i32_w]; rfl
   refine take_ (i := 1) (N := some 16) (v := ?_) (a' := ?_) #[true, true, false, false, false, false, false, false, false, false, false, false, false, false, false, false, false, false] rfl rfl (by kernel_rfl) (fun _ _ _ h => h) (Or.inl ⟨by rfl, ?_⟩) hHeld ?_ ?_; rotate_left
   ·rintro w' ⟨s0, s1, s2, s3, s4, s5⟩; go_simp; with_reducible rfl
   rotate_left
   ·simp only [Act.put, List.setIfInBounds_toArray, List.set_cons_zero, List.set_cons_succ, i64_w, i32_w]; rfl
   refine take_ (i := 2) (N := some 17) (v := ?_) (a' := ?_) #[true, true, true, false, false, false, false, false, false, false, false, false, false, false, false, false, false, false] rfl rfl (by kernel_rfl) (fun _ _ _ h => h) (Or.inl ⟨by rfl, ?_⟩) hHeld ?_ ?_; rotate_left
   ·rintro w' ⟨s0, s1, s2, s3, s4, s5⟩; go_simp; with_reducible rfl
   rotate_left
   ·simp only [Act.put, List.setIfInBounds_toArray, List.set_cons_zero, List.set_cons_succ, i64_w, i32_w]; rfl
   refine take_ (i := 3) (N := some 18) (v := ?_) (a' := ?_) #[true, true, true, true, false, false, false, false, false, false, false, false, false, false, false, false, false, false] rfl rfl (by kernel_rfl) (fun _ _ _ h => h) (Or.inl ⟨by rfl, ?_⟩) hHeld ?_ ?_; rotate_left
   ·rintro w' ⟨s0, s1, s2, s3, s4, s5⟩; go_simp; with_reducible rfl
   rotate_left
   ·simp only [Act.put, List.setIfInBounds_toArray, List.set_cons_zero, List.set_cons_succ, i64_w, i32_w]; rfl
   refine take_ (i := 4) (N := some 19) (v := ?_) (a' := ?_) #[true, true, true, true, true, false, false, false, false, false, false, false, false, false, false, false, false, false] rfl rfl (by kernel_rfl) (fun _ _ _ h => h) (Or.inl ⟨by rfl, ?_⟩) hHeld ?_ ?_; rotate_left
   ·rintro w' ⟨s0, s1, s2, s3, s4, s5⟩; go_simp; with_reducible rfl
   rotate_left
   ·simp only [Act.put, List.setIfInBounds_toArray, List.set_cons_zero, List.set_cons_succ, i64_w, i32_w]; rfl
   refine take_ (i := 5) (N := some 20) (v := ?_) (a' := ?_) #[true, true, true, true, true, true, false, false, false, false, false, false, false, false, false, false, false, false] rfl rfl (by kernel_rfl) (fun _ _ _ h => h) (Or.inl ⟨by rfl, ?_⟩) hHeld ?_ ?_; rotate_left
   ·rintro w' ⟨s0, s1, s2, s3, s4, s5⟩; go_simp; with_reducible rfl
   rotate_left
   ·simp only [Act.put, List.setIfInBounds_toArray, List.set_cons_zero, List.set_cons_succ, i64_w, i32_w]; rfl
   refine take_ (i := 6) (N := some 21) (v := ?_) (a' := ?_) #[true, true, true, true, true, true, true, false, false, false, false, false, false, false, false, false, false, false] rfl rfl (by kernel_rfl) (fun _ _ _ h => h) (Or.inl ⟨by rfl, ?_⟩) hHeld ?_ ?_; rotate_left
   ·rintro w' ⟨s0, s1, s2, s3, s4, s5⟩; go_simp; with_reducible rfl
   rotate_left
   ·simp only [Act.put, List.setIfInBounds_toArray, List.set_cons_zero, List.set_cons_succ, i64_w, i32_w]; rfl
   refine take_ (i := 7) (N := some 22) (v := ?_) (a' := ?_) #[true, true, true, true, true, true, true, true, false, false, false, false, false, false, false, false, false, false] rfl rfl (by kernel_rfl) (fun _ _ _ h => h) (Or.inl ⟨by rfl, ?_⟩) hHeld ?_ ?_; rotate_left
   ·rintro w' ⟨s0, s1, s2, s3, s4, s5⟩; go_simp; with_reducible rfl
   rotate_left
   ·simp only [Act.put, List.setIfInBounds_toArray, List.set_cons_zero, List.set_cons_succ, i64_w, i32_w]; rfl
   refine take_ (i := 8) (N := some 23) (v := ?_) (a' := ?_) #[true, true, true, true, true, true, true, true, true, false, false, false, false, false, false, false, false, false] rfl rfl (by kernel_rfl) (fun _ _ _ h => h) (Or.inl ⟨by rfl, ?_⟩) hHeld ?_ ?_; rotate_left
   ·rintro w' ⟨s0, s1, s2, s3, s4, s5⟩; go_simp; with_reducible rfl
   rotate_left
   ·simp only [Act.put, List.setIfInBounds_toArray, List.set_cons_zero, List.set_cons_succ, i64_w, i32_w]; rfl
   refine take_ (i := 9) (N := some 24) (v := ?_) (a' := ?_) #[true, true, true, true, true, true, true, true, true, true, false, false, false, false, false, false, false, false] rfl rfl (by kernel_rfl) (fun _ _ _ h => h) (Or.inl ⟨by rfl, ?_⟩) hHeld ?_ ?_; rotate_left
   ·rintro w' ⟨s0, s1, s2, s3, s4, s5⟩; go_simp; with_reducible rfl
   rotate_left
   ·simp only [Act.put, List.setIfInBounds_toArray, List.set_cons_zero, List.set_cons_succ, i64_w, i32_w]; rfl
   refine take_ (i := 10) (N := some 25) (v := ?_) (a' := ?_) #[true, true, true, true, true, true, true, true, true, true, true, false, false, false, false, false, false, false] rfl rfl (by kernel_rfl) (fun _ _ _ h => h) (Or.inl ⟨by rfl, ?_⟩) hHeld ?_ ?_; rotate_left
   ·rintro w' ⟨s0, s1, s2, s3, s4, s5⟩; go_simp; with_reducible rfl
   rotate_left
   ·simp only [Act.put, List.setIfInBounds_toArray, List.set_cons_zero, List.set_cons_succ, i64_w, i32_w]; rfl
   refine take_ (i := 12) (N := some 27) (v := ?_) (a' := ?_) #[true, true, true, true, true, true, true, true, true, true, true, false, true, false, false, false, false, false] rfl rfl (by kernel_rfl) (fun _ _ _ h => h) (Or.inl ⟨by rfl, ?_⟩) hHeld ?_ ?_; rotate_left
   ·rintro w' ⟨s0, s1, s2, s3, s4, s5⟩; go_simp; with_reducible rfl
   rotate_left
   ·simp only [Act.put, List.setIfInBounds_toArray, List.set_cons_zero, List.set_cons_succ, i64_w, i32_w]; rfl
   refine take_ (i := 13) (N := some 28) (v := ?_) (a' := ?_) #[true, true, true, true, true, true, true, true, true, true, true, false, true, true, false, false, false, false] rfl rfl (by kernel_rfl) (fun _ _ _ h => h) (Or.inl ⟨by rfl, ?_⟩) hHeld ?_ ?_; rotate_left
   ·rintro w' ⟨s0, s1, s2, s3, s4, s5⟩; go_simp; with_reducible rfl
   rotate_left
   ·simp only [Act.put, List.setIfInBounds_toArray, List.set_cons_zero, List.set_cons_succ, i64_w, i32_w]; rfl
   refine take_ (i := 14) (N := some 29) (v := ?_) (a' := ?_) #[true, true, true, true, true, true, true, true, true, true, true, false, true, true, true, false, false, false] rfl rfl (by kernel_rfl) (fun _ _ _ h => h) (Or.inl ⟨by rfl, ?_⟩) hHeld ?_ ?_; rotate_left
   ·rintro w' ⟨s0, s1, s2, s3, s4, s5⟩; go_simp; with_reducible rfl
   rotate_left
   ·simp only [Act.put, List.setIfInBounds_toArray, List.set_cons_zero, List.set_cons_succ, i64_w, i32_w]; rfl
   refine one_ (i := 11) (N := some 26) #[true, true, true, true, true, true, true, true, true, true, true, true, true, true, true, false, false, false] rfl rfl (by kernel_rfl) (by decide) (fun K hK => ?_); go_simp; refine hK.out _ _ hHeld (fun hHeld => ?_); clear hK K; refine one_ (i := 15) (N := some 30) #[true, true, true, true, true, true, true, true, true, true, true, true, true, true, true, true, false, false] rfl rfl (by kernel_rfl) (by decide) (fun K hK => ?_); go_simp; go_at_call 77; refine HCall.out.mono ?_; rintro e w5 ⟨A5, c5, rfl, hc5, hF5, hb5⟩
   have hS5 : Aside0 ((fun w' : World => w'.cell? ⟨w.heap.size, 3, none⟩ = some (.slice (some ⟨g, 0, none⟩) n.f2.length cap) ∧ w'.cell? pad = some (.int .i64 (iN : Int)) ∧ w'.cell? ⟨w.heap.size + 1, 0, none⟩ = some (.int .i64 b.f0) ∧ w'.cell? ⟨w.heap.size + 1, 1, none⟩ = some (.int .i64 b.f1.f0) ∧ w'.cell? ⟨w.heap.size + 1, 2, none⟩ = some (.string b.f1.f1) ∧ w'.cell? ⟨w.heap.size + 1, 3, none⟩ = some (.slice Ab b.f2.length cb)) w5) := ⟨by (obtain ⟨q0, q1, q2, q3, q4, q5⟩ := hSd; exact ⟨pw_cell_below hb5 q0, pw_cell_below hb5 q1, pw_cell_below hb5 q2, pw_cell_below hb5 q3, pw_cell_below hb5 q4, pw_cell_below hb5 q5⟩)⟩
   have y0 := pw_cell_below hb5 HXX.out.1; have y1 := pw_cell_below hb5 HXX.out.2.1; have y2 := pw_cell_below hb5 HXX.out.2.2.1; have y3 := pw_cell_below hb5 HXX.out.2.2.2; have g5 : w5.heap[g]? = some (.cells cg 26 (0, 0)) := blk_below (blk_drew HG4.out) hb5; have r0 := Lib.frozen_of_heap g5 (iN * 4); have r1 := Lib.frozen_of_heap g5 (iN * 4 + 1); have r2 := Lib.frozen_of_heap g5 (iN * 4 + 2); have r3 := Lib.frozen_of_heap g5 (iN * 4 + 3); have HF5 := Aside0.mk hF5; have HB5 := Aside0.mk hb5; have HG5 := Aside0.mk g5; clear hF5 hb5 g5; refine hK.out _ _ hS5.out (fun hHeld => ?_); clear hK K; refine take_ (i := 16) (N := some 31) (v := ?_) (a' := ?_) #[true, true, true, true, true, true, true, true, true, true, true, true, true, true, true, true, true, false] rfl rfl (by kernel_rfl) (fun _ _ _ h => h) (Or.inl ⟨by rfl, ?_⟩) hHeld ?_ ?_; rotate_left
   ·rintro w' ⟨s0, s1, s2, s3, s4, s5⟩; go_simp; with_reducible rfl
   rotate_left
   ·simp only [Act.put, List.setIfInBounds_toArray, List.set_cons_zero, List.set_cons_succ, i64_w, i32_w]; rfl
   refine last_ (i := 17) (N := none) #[true, true, true, true, true, true, true, true, true, true, true, true, true, true, true, true, true, true] rfl rfl (by kernel_rfl) (by decide) (fun K hK => ?_); go_simp; refine hK.out _ _ ?_; clear hK K; refine done_ (by kernel_rfl) ?_; have hcap : n.f2.length ≤ cap := (Kd.R_reads' HR4.out).2.1; have hw5 : Below w.heap.size w w5 := HW4.out.trans ((below_drew1 (Below.refl _ _)).trans (HB5.out.mono (Nat.le_refl _)) |>.mono HW4.out.size); have hRs : Kd.R (tree_put.stat (fun (z : S26) cs => Kd.FK k26 w5 (fun k => k ≠ g ∧ (((Pn k ∨ Pb k) ∧ k < w.heap.size) ∨ w.heap.size + 3 ≤ k)) z cs)) 26 w5 (w.heap.size + 3) (fun _ => True) (.slice (some ⟨g, 0, none⟩) n.f2.length cap) n.f2 := Kd.R_below (tree_put.stat_imp (fun z cs hz => Kd.FK_mono (Kd.FK_below hz hw5) (fun k hk => ⟨by have := hk.2; omega, .inl ⟨.inl hk.1, hk.2⟩⟩)) (Kd.R_drew HR4.out)) HB5.out
   have hy5 : (tree_put.stat (fun (z : S26) cs => Kd.FK k26 w5 (fun k => k ≠ g ∧ (((Pn k ∨ Pb k) ∧ k < w.heap.size) ∨ w.heap.size + 3 ≤ k)) z cs)).M w5 (w.heap.size + 3) (fun k => k ≠ g) y [.int .i64 y.f0, .int .i64 y.f1.f0, .string y.f1.f1, .slice A5 y.f2.length c5] := ⟨k26_mkF w5 _ y hc5 (Kd.F_mono HF5.out (fun k hk => by
    have h1 := HL4.out; have h2 := HZ4.out
    rcases hk with hk | hk
    ·rcases hk with hk | hk
     ·exact ⟨by have := hk.2; omega, .inl ⟨.inl hk.1, hk.2⟩⟩
     ·exact ⟨by have := hk.2; omega, .inl ⟨.inr hk.1, hk.2⟩⟩
    ·have hk : W4.heap.size ≤ k := hk
     exact ⟨by omega, .inr (by omega)⟩)), rfl, tree_Clone.one4⟩
   obtain ⟨hR6, hg6⟩ := Kd.R_seg hRs (iN : Int) (by omega) (by omega) (c := [.int .i64 x.f0, .int .i64 x.f1.f0, .string x.f1.f1, .slice A3 x.f2.length c3]) (seg := [.int .i64 y.f0, .int .i64 y.f1.f0, .string y.f1.f1, .slice A5 y.f2.length c5]) (j := 0) rfl (fun j u hj => by
    match j, hj with
    | 0, hj => simp only [List.getElem?_cons_zero, Option.some.injEq] at hj; subst hj; exact y0
    | 1, hj => simp only [List.getElem?_cons_succ, List.getElem?_cons_zero, Option.some.injEq] at hj; subst hj; exact y1
    | 2, hj => simp only [List.getElem?_cons_succ, List.getElem?_cons_zero, Option.some.injEq] at hj; subst hj; exact y2
    | 3, hj => simp only [List.getElem?_cons_succ, List.getElem?_cons_zero, Option.some.injEq] at hj; subst hj; exact y3) (show 0 + 4 ≤ 4 from Nat.le_refl 4) (x' := y) hy5 (fun k hk => ⟨trivial, hk⟩)
   have e6 : w5.setCells g ((iN : Int).toNat * (tree_put.stat (fun (z : S26) cs => Kd.FK k26 w5 (fun k => k ≠ g ∧ (((Pn k ∨ Pb k) ∧ k < w.heap.size) ∨ w.heap.size + 3 ≤ k)) z cs)).sz + 0) [.int .i64 y.f0, .int .i64 y.f1.f0, .string y.f1.f1, .slice A5 y.f2.length c5] = ((((w5.setCell ⟨g, iN * 4, none⟩ (.int .i64 y.f0)).setCell ⟨g, iN * 4 + 1, none⟩ (.int .i64 y.f1.f0)).setCell ⟨g, iN * 4 + 2, none⟩ (.string y.f1.f1)).setCell ⟨g, iN * 4 + 3, none⟩ (.slice A5 y.f2.length c5)) := rfl; rw [e6] at hR6 hg6
   have f6 : ∀ k, k ≠ g → ((((w5.setCell ⟨g, iN * 4, none⟩ (.int .i64 y.f0)).setCell ⟨g, iN * 4 + 1, none⟩ (.int .i64 y.f1.f0)).setCell ⟨g, iN * 4 + 2, none⟩ (.string y.f1.f1)).setCell ⟨g, iN * 4 + 3, none⟩ (.slice A5 y.f2.length c5)).heap[k]? = w5.heap[k]? := fun k hk => (Below.heap_setCell _ _ _ k hk).trans ((Below.heap_setCell _ _ _ k hk).trans ((Below.heap_setCell _ _ _ k hk).trans (Below.heap_setCell _ _ _ k hk)))
   have hB6 : Below w.heap.size w ((((w5.setCell ⟨g, iN * 4, none⟩ (.int .i64 y.f0)).setCell ⟨g, iN * 4 + 1, none⟩ (.int .i64 y.f1.f0)).setCell ⟨g, iN * 4 + 2, none⟩ (.string y.f1.f1)).setCell ⟨g, iN * 4 + 3, none⟩ (.slice A5 y.f2.length c5)) := below_set (below_set (below_set (below_set hw5 (by omega)) (by omega)) (by omega)) (by omega); have k1 := (f6 w.heap.size hd0).trans (blk_below (blk_drew HK4.out.1) HB5.out); have k3 := (f6 (w.heap.size + 1 + 1) (by omega)).trans (blk_below (blk_drew HK4.out.2) HB5.out); have hF6 := tree_put.stat_F (okf := (fun k => ((Pn k ∨ Pb k) ∧ k < w.heap.size) ∨ w.heap.size + 3 ≤ k)) hR6 (fun z cs hz => Kd.FK_mono (Kd.FK_step hz (fun k hk _ => f6 k hk.1)) (fun k hk => hk.2)) (.inr (by omega)); rw [Int.toNat_natCast, List.length_set] at hF6; have HF6 := Aside0.mk hF6; have HB6 := Aside0.mk hB6; have HK1 := Aside0.mk k1; have HK3 := Aside0.mk k3; clear hR6 hg6 f6 hB6 hy5 hRs hF6 e6 hw5 f4 HF5 HB5 HG5 hS5 HR4 HK4 HG4 HL4 hSd HXX y0 y1 y2 y3 r0 r1 r2 r3; generalize ((((w5.setCell ⟨g, iN * 4, none⟩ (.int .i64 y.f0)).setCell ⟨g, iN * 4 + 1, none⟩ (.int .i64 y.f1.f0)).setCell ⟨g, iN * 4 + 2, none⟩ (.string y.f1.f1)).setCell ⟨g, iN * 4 + 3, none⟩ (.slice A5 y.f2.length c5)) = W6 at k1 k3 HF6 HB6 HK1 HK3 ⊢; have a0 : W6.cell? ⟨w.heap.size, 0, none⟩ = some (.int .i64 n.f0) := Lib.cell_of_heap k1 0; have b0 : W6.cell? ⟨w.heap.size + 1 + 1, 0, none⟩ = some (.int .i64 0) := Lib.cell_of_heap k3 0; have d0 := Lib.frozen_of_heap k1 0; have e0 := Lib.frozen_of_heap k3 0; have a1 : W6.cell? ⟨w.heap.size, 1, none⟩ = some (.int .i64 n.f1.f0) := Lib.cell_of_heap k1 1; have b1 : W6.cell? ⟨w.heap.size + 1 + 1, 1, none⟩ = some (.int .i64 0) := Lib.cell_of_heap k3 1; have d1 := Lib.frozen_of_heap k1 1; have e1 := Lib.frozen_of_heap k3 1; have a2 : W6.cell? ⟨w.heap.size, 2, none⟩ = some (.string n.f1.f1) := Lib.cell_of_heap k1 2; have b2 : W6.cell? ⟨w.heap.size + 1 + 1, 2, none⟩ = some (.string ⟨#[]⟩) := Lib.cell_of_heap k3 2; have d2 := Lib.frozen_of_heap k1 2; have e2 := Lib.frozen_of_heap k3 2; have a3 : W6.cell? ⟨w.heap.size, 3, none⟩ = some (.slice (some ⟨g, 0, none⟩) n.f2.length cap) := Lib.cell_of_heap k1 3; have b3 : W6.cell? ⟨w.heap.size + 1 + 1, 3, none⟩ = some (.slice none 0 0) := Lib.cell_of_heap k3 3; have d3 := Lib.frozen_of_heap k1 3; have e3 := Lib.frozen_of_heap k3 3; clear k1 k3; go_wp2_with fail; refine bodyPost_ret (results_cell_row rfl _ _ (w.heap.size + 1 + 1) 26 #[.int .i64 n.f0, .int .i64 n.f1.f0, .string n.f1.f1, .slice (some ⟨g, 0, none⟩) n.f2.length cap] (0, 0) _ rfl (by refine blk_put (cs := #[.int .i64 n.f0, .int .i64 n.f1.f0, .string n.f1.f1, .slice none 0 0]) ?_ 3 _ rfl; refine blk_put (cs := #[.int .i64 n.f0, .int .i64 n.f1.f0, .string ⟨#[]⟩, .slice none 0 0]) ?_ 2 _ rfl; refine blk_put (cs := #[.int .i64 n.f0, .int .i64 0, .string ⟨#[]⟩, .slice none 0 0]) ?_ 1 _ rfl; refine blk_put (cs := #[.int .i64 0, .int .i64 0, .string ⟨#[]⟩, .slice none 0 0]) ?_ 0 _ rfl; exact HK3.out) Try.underlying26 rfl (by kernel_rfl)) rfl ?_
   have hok : ∀ k, (((Pn k ∨ Pb k) ∧ k < w.heap.size) ∨ w.heap.size + 3 ≤ k) → k ≠ w.heap.size + 1 + 1 := fun k hk => by rcases hk with hk | hk <;> omega
   refine ⟨some ⟨g, 0, none⟩, cap, by simp, by simpa using hcap, ?_, below_set (below_set (below_set (below_set HB6.out (by omega)) (by omega)) (by omega)) (by omega)⟩; refine Kd.F_mono ?_ (fun k (hk : ((Pn k ∨ Pb k) ∧ k < w.heap.size) ∨ w.heap.size + 3 ≤ k) => hk.elim (fun h => .inl h.1) (fun h => .inr (by omega))); refine Kd.F_far (Kd.F_far (Kd.F_far (Kd.F_far ?_ hok _) hok _) hok _) hok _
   simpa using HF6.out
def tree_put.f (a0_0 : Int) (a0_1 : Int) (a0_2 : ByteArray) (l0_3 : List (S26)) (l1 : List Int) (a2_0 : Int) (a2_1 : Int) (a2_2 : ByteArray) (l2_3 : List (S26)) : Option (Int × Int × ByteArray × List (S26)) :=
 (tree_put.go l1 ⟨a0_0, ⟨a0_1, a0_2⟩, l0_3⟩ ⟨a2_0, ⟨a2_1, a2_2⟩, l2_3⟩).bind fun r => some (r.f0, r.f1.f0, r.f1.f1, r.f2)
theorem tree_put.calls (a0_0 : Int) (a0_1 : Int) (a0_2 : ByteArray) (P0_3_ : Nat → Prop) (A0_3 : Option Addr) (c0_3 : Nat) (l0_3 : List (S26)) (A1 : Option Addr) (c1 : Nat) (l1 : List Int) (a2_0 : Int) (a2_1 : Int) (a2_2 : ByteArray) (P2_3_ : Nat → Prop) (A2_3 : Option Addr) (c2_3 : Nat) (l2_3 : List (S26)) (r1 : Int) (r2 : Int) (r3 : ByteArray) (r4 : List (S26)) (w : World) (hs0_3 : Kd.V k26 26 w w.heap.size (fun k_ => P0_3_ k_) (.slice A0_3 l0_3.length c0_3) l0_3) (hr1 : Kd.C (Kd.int .i64) w A1 l1.length l1) (hc1 : l1.length ≤ c1) (hs2_3 : Kd.V k26 26 w w.heap.size (fun k_ => P2_3_ k_) (.slice A2_3 l2_3.length c2_3) l2_3) (h : tree_put.f a0_0 a0_1 a0_2 l0_3 l1 a2_0 a2_1 a2_2 l2_3 = some (r1, r2, r3, r4)) :
  Calls Try.prog 77 #[.agg #[.int .i64 a0_0, .int .i64 a0_1, .string a0_2, .slice A0_3 l0_3.length c0_3], .slice A1 l1.length c1, .agg #[.int .i64 a2_0, .int .i64 a2_1, .string a2_2, .slice A2_3 l2_3.length c2_3]] w fun e w' => ∃ v3_ : Value, e = .returned (.agg #[.int .i64 r1, .int .i64 r2, .string r3, v3_]) ∧ Kd.V k26 26 w' w.heap.size (fun k_ => ((P0_3_ k_ ∨ P2_3_ k_) ∨ w.heap.size ≤ k_)) v3_ r4 ∧ Below w.heap.size w w' := by
 obtain ⟨r, hr, h⟩ := Option.bind_eq_some_iff.mp h; simp only [Option.some.injEq, Prod.mk.injEq] at h; obtain ⟨rfl, rfl, rfl, rfl⟩ := h; obtain ⟨_, h1, h2⟩ := Kd.V_at hs0_3; obtain ⟨_, h3, h4⟩ := Kd.V_at hs2_3; refine (tree_put.walk_ok l1 _ _ r A0_3 A1 A2_3 c0_3 c1 c2_3 P0_3_ P2_3_ w hr h1 h2 hc1 hr1 h3 h4).mono ?_; rintro e w' ⟨A', c', rfl, q1, q2, q3⟩; exact ⟨_, rfl, Kd.V_mk q1 q2, q3⟩

end Go.Proofs.Ytnafnieocpkkhaa.P

namespace Go.Proofs.Ytnafnieocpkkhaa.P
open Go.RowKit Go.Proofs.YtnafnieocpkkhaaW.PrintWords Go.Proofs.YtnafnieocpkkhaaW.PrintLast Go.Proofs.YtnafnieocpkkhaaW.PrintMore
attribute [local go_sem] max2_int min2_int max_two min_two max_three min_three max_four min_four
set_option linter.unusedVariables false
set_option linter.unusedSimpArgs false

def tree_Put.f (k : Nat) (a0_0 : Int) (a0_1 : Int) (a0_2 : ByteArray) (l0_3 : List (S26)) (l1 : List Int) (a2_0 : Int) (a2_1 : Int) (a2_2 : ByteArray) (l2_3 : List (S26)) : Option (Int × Int × ByteArray × List (S26) × Int) :=
 (tree_IsFormed.f k a0_0 a0_1 a0_2 l0_3).bind fun b => if b = true then ((tree_IsFormed.f k a2_0 a2_1 a2_2 l2_3).bind fun b2 => if b2 = true then ((tree_at.f k a0_0 a0_1 a0_2 l0_3 l1).bind fun t => if t.2.2.2.2.2 = true then ((tree_put.f a0_0 a0_1 a0_2 l0_3 l1 a2_0 a2_1 a2_2 l2_3).bind fun o => (tree_IsFormed.f k o.1 o.2.1 o.2.2.1 o.2.2.2).bind fun b3 => if b3 = true then ((tree_Clone.f k o.1 o.2.1 o.2.2.1 o.2.2.2).bind fun c => some (c.1, c.2.1, c.2.2.1, c.2.2.2, 0)) else some (0, 0, (⟨#[]⟩ : ByteArray), [], 4)) else some (0, 0, (⟨#[]⟩ : ByteArray), [], 2)) else some (0, 0, (⟨#[]⟩ : ByteArray), [], 4)) else some (0, 0, (⟨#[]⟩ : ByteArray), [], 4)
set_option maxHeartbeats 8000000 in
set_option maxRecDepth 100000 in
theorem tree_Put.calls (k : Nat) (a0_0 : Int) (a0_1 : Int) (a0_2 : ByteArray) (A0_3 : Option Addr) (c0_3 : Nat) (l0_3 : List (S26)) (A1 : Option Addr) (c1 : Nat) (l1 : List Int) (a2_0 : Int) (a2_1 : Int) (a2_2 : ByteArray) (A2_3 : Option Addr) (c2_3 : Nat) (l2_3 : List (S26)) (r1 : Int) (r2 : Int) (r3 : ByteArray) (r4 : List (S26)) (r5 : Int) (w : World) (hr0_3 : Kd.C k26 w A0_3 l0_3.length l0_3) (hc0_3 : l0_3.length ≤ c0_3) (hr1 : Kd.C (Kd.int .i64) w A1 l1.length l1) (hc1 : l1.length ≤ c1) (hr2_3 : Kd.C k26 w A2_3 l2_3.length l2_3) (hc2_3 : l2_3.length ≤ c2_3) (h : tree_Put.f k a0_0 a0_1 a0_2 l0_3 l1 a2_0 a2_1 a2_2 l2_3 = some (r1, r2, r3, r4, r5)) :
  Calls Try.prog 43 #[.agg #[.int .i64 a0_0, .int .i64 a0_1, .string a0_2, .slice A0_3 l0_3.length c0_3], .slice A1 l1.length c1, .agg #[.int .i64 a2_0, .int .i64 a2_1, .string a2_2, .slice A2_3 l2_3.length c2_3]] w fun e w' => ∃ v3_ : Value, e = .returned (.tuple #[.agg #[.int .i64 r1, .int .i64 r2, .string r3, v3_], .int .i64 r5]) ∧ Kd.R k26 26 w' w.heap.size (fun _ => True) v3_ r4 ∧ Below w.heap.size w w' := by
 have hu := Try.underlying26; have hw3 : Below w.heap.size w (((w.alloc (.cells #[.int .i64 a0_0, .int .i64 a0_1, .string a0_2, .slice A0_3 l0_3.length c0_3] 26)).alloc (.cells #[.int .i64 a2_0, .int .i64 a2_1, .string a2_2, .slice A2_3 l2_3.length c2_3] 26)).alloc (.cells #[.int .i64 0, .int .i64 0, .string ⟨#[]⟩, .slice none 0 0] 26)) := below_alloc (below_alloc (below_alloc (Below.refl _ _) _) _) _; have Cn := Aside0.mk (Kd.C_below hr0_3 hw3); have Cp := Aside0.mk (Kd.C_below hr1 hw3); have Cb := Aside0.mk (Kd.C_below hr2_3 hw3); have HB := Aside0.mk hw3; have H3 := Aside0.mk (show (((w.alloc (.cells #[.int .i64 a0_0, .int .i64 a0_1, .string a0_2, .slice A0_3 l0_3.length c0_3] 26)).alloc (.cells #[.int .i64 a2_0, .int .i64 a2_1, .string a2_2, .slice A2_3 l2_3.length c2_3] 26)).alloc (.cells #[.int .i64 0, .int .i64 0, .string ⟨#[]⟩, .slice none 0 0] 26)).heap[w.heap.size]? = some (.cells #[.int .i64 a0_0, .int .i64 a0_1, .string a0_2, .slice A0_3 l0_3.length c0_3] 26 (0, 0)) from blk_alloc (blk_alloc (blk_new w _) _) _); have H5 := Aside0.mk (show (((w.alloc (.cells #[.int .i64 a0_0, .int .i64 a0_1, .string a0_2, .slice A0_3 l0_3.length c0_3] 26)).alloc (.cells #[.int .i64 a2_0, .int .i64 a2_1, .string a2_2, .slice A2_3 l2_3.length c2_3] 26)).alloc (.cells #[.int .i64 0, .int .i64 0, .string ⟨#[]⟩, .slice none 0 0] 26)).heap[w.heap.size + 1]? = some (.cells #[.int .i64 a2_0, .int .i64 a2_1, .string a2_2, .slice A2_3 l2_3.length c2_3] 26 (0, 0)) from blk_alloc (by simpa using blk_new (w.alloc (.cells #[.int .i64 a0_0, .int .i64 a0_1, .string a0_2, .slice A0_3 l0_3.length c0_3] 26)) (.cells #[.int .i64 a2_0, .int .i64 a2_1, .string a2_2, .slice A2_3 l2_3.length c2_3] 26)) _); have H6 := Aside0.mk (show (((w.alloc (.cells #[.int .i64 a0_0, .int .i64 a0_1, .string a0_2, .slice A0_3 l0_3.length c0_3] 26)).alloc (.cells #[.int .i64 a2_0, .int .i64 a2_1, .string a2_2, .slice A2_3 l2_3.length c2_3] 26)).alloc (.cells #[.int .i64 0, .int .i64 0, .string ⟨#[]⟩, .slice none 0 0] 26)).heap[w.heap.size + 1 + 1]? = some (.cells #[.int .i64 0, .int .i64 0, .string ⟨#[]⟩, .slice none 0 0] 26 (0, 0)) by simpa using blk_new ((w.alloc (.cells #[.int .i64 a0_0, .int .i64 a0_1, .string a0_2, .slice A0_3 l0_3.length c0_3] 26)).alloc (.cells #[.int .i64 a2_0, .int .i64 a2_1, .string a2_2, .slice A2_3 l2_3.length c2_3] 26)) (.cells #[.int .i64 0, .int .i64 0, .string ⟨#[]⟩, .slice none 0 0] 26)); have HH := Aside0.mk h; clear hr0_3 hr1 hr2_3 hw3 h; obtain ⟨b1, E1, h⟩ := Option.bind_eq_some_iff.mp HH.out; have E1 := Aside0.mk E1; have HH2 := Aside0.mk h; clear h HH; go_enter Try.func43, Try.ntmps43; go_wp2_with fail; refine (tree_IsFormed.calls k a0_0 a0_1 a0_2 A0_3 c0_3 l0_3 b1 _ Cn.out hc0_3 E1.out).mono ?_; rintro e w4 ⟨rfl, hb⟩; replace Cn := Aside0.mk (Kd.C_below Cn.out hb); replace Cp := Aside0.mk (Kd.C_below Cp.out hb); replace Cb := Aside0.mk (Kd.C_below Cb.out hb); replace H3 := Aside0.mk (blk_below H3.out hb); replace H5 := Aside0.mk (blk_below H5.out hb); replace H6 := Aside0.mk (blk_below H6.out hb); replace HB := Aside0.mk (Cl.bstep HB.out hb); clear hb; obtain ⟨yH3_0, yH3_1, yH3_2, yH3_3⟩ := Cl.four H3.out; obtain ⟨yH5_0, yH5_1, yH5_2, yH5_3⟩ := Cl.four H5.out; obtain ⟨yH6_0, yH6_1, yH6_2, yH6_3⟩ := Cl.four H6.out; obtain ⟨zH6_0, zH6_1, zH6_2, zH6_3⟩ := Cl.ffour H6.out; have h := HH2.out
 cases b1 with
 | false =>
  rw [if_neg (by decide)] at h; simp only [Option.some.injEq, Prod.mk.injEq] at h; obtain ⟨rfl, rfl, rfl, rfl, rfl⟩ := h; go_wp2_with fail; refine bodyPost_ret (results_ct rfl _ _ (w.heap.size + 1 + 1) 26 #[.int .i64 0, .int .i64 0, .string ⟨#[]⟩, .slice none 0 0] (0, 0) _ rfl (by refine blk_put (cs := #[.int .i64 0, .int .i64 0, .string ⟨#[]⟩, .slice none 0 0]) ?_ 3 _ rfl; refine blk_put (cs := #[.int .i64 0, .int .i64 0, .string ⟨#[]⟩, .slice none 0 0]) ?_ 2 _ rfl; refine blk_put (cs := #[.int .i64 0, .int .i64 0, .string ⟨#[]⟩, .slice none 0 0]) ?_ 1 _ rfl; refine blk_put (cs := #[.int .i64 0, .int .i64 0, .string ⟨#[]⟩, .slice none 0 0]) ?_ 0 _ rfl; exact H6.out) Try.underlying26 rfl (by kernel_rfl)) rfl ?_; exact ⟨_, rfl, Kd.R_nil _ _ _ _ _, below_set (below_set (below_set (below_set HB.out (by omega)) (by omega)) (by omega)) (by omega)⟩
 | true =>
  rw [if_pos rfl] at h; obtain ⟨b2, E2, h⟩ := Option.bind_eq_some_iff.mp h; have E2 := Aside0.mk E2; have HH3 := Aside0.mk h; clear h HH2; go_wp2_with fail; refine (tree_IsFormed.calls k a2_0 a2_1 a2_2 A2_3 c2_3 l2_3 b2 _ Cb.out hc2_3 E2.out).mono ?_; rintro e w5 ⟨rfl, hb⟩; replace Cn := Aside0.mk (Kd.C_below Cn.out hb); replace Cp := Aside0.mk (Kd.C_below Cp.out hb); replace Cb := Aside0.mk (Kd.C_below Cb.out hb); replace H3 := Aside0.mk (blk_below H3.out hb); replace H5 := Aside0.mk (blk_below H5.out hb); replace H6 := Aside0.mk (blk_below H6.out hb); replace HB := Aside0.mk (Cl.bstep HB.out hb); clear hb yH3_0 yH3_1 yH3_2 yH3_3 yH5_0 yH5_1 yH5_2 yH5_3 yH6_0 yH6_1 yH6_2 yH6_3 zH6_0 zH6_1 zH6_2 zH6_3; obtain ⟨yH3_0, yH3_1, yH3_2, yH3_3⟩ := Cl.four H3.out; obtain ⟨yH5_0, yH5_1, yH5_2, yH5_3⟩ := Cl.four H5.out; obtain ⟨yH6_0, yH6_1, yH6_2, yH6_3⟩ := Cl.four H6.out; obtain ⟨zH6_0, zH6_1, zH6_2, zH6_3⟩ := Cl.ffour H6.out; have h := HH3.out
  cases b2 with
  | false =>
   rw [if_neg (by decide)] at h; simp only [Option.some.injEq, Prod.mk.injEq] at h; obtain ⟨rfl, rfl, rfl, rfl, rfl⟩ := h; go_wp2_with fail; refine bodyPost_ret (results_ct rfl _ _ (w.heap.size + 1 + 1) 26 #[.int .i64 0, .int .i64 0, .string ⟨#[]⟩, .slice none 0 0] (0, 0) _ rfl (by refine blk_put (cs := #[.int .i64 0, .int .i64 0, .string ⟨#[]⟩, .slice none 0 0]) ?_ 3 _ rfl; refine blk_put (cs := #[.int .i64 0, .int .i64 0, .string ⟨#[]⟩, .slice none 0 0]) ?_ 2 _ rfl; refine blk_put (cs := #[.int .i64 0, .int .i64 0, .string ⟨#[]⟩, .slice none 0 0]) ?_ 1 _ rfl; refine blk_put (cs := #[.int .i64 0, .int .i64 0, .string ⟨#[]⟩, .slice none 0 0]) ?_ 0 _ rfl; exact H6.out) Try.underlying26 rfl (by kernel_rfl)) rfl ?_; exact ⟨_, rfl, Kd.R_nil _ _ _ _ _, below_set (below_set (below_set (below_set HB.out (by omega)) (by omega)) (by omega)) (by omega)⟩
  | true =>
   rw [if_pos rfl] at h; obtain ⟨⟨t1, t2, t3, t4, t5, t6⟩, E3, h⟩ := Option.bind_eq_some_iff.mp h; have E3 := Aside0.mk E3; have HH4 := Aside0.mk h; clear h HH3; go_wp2_with fail; refine (tree_at.calls k a0_0 a0_1 a0_2 _ A0_3 c0_3 l0_3 A1 c1 l1 t1 t2 t3 t4 t5 t6 _ (Kd.V_mk hc0_3 (Kd.C_F k26_heap Cn.out)) Cp.out hc1 E3.out).mono ?_; rintro e w6 ⟨v3, rfl, hV, hb⟩; replace Cn := Aside0.mk (Kd.C_below Cn.out hb); replace Cp := Aside0.mk (Kd.C_below Cp.out hb); replace Cb := Aside0.mk (Kd.C_below Cb.out hb); replace H3 := Aside0.mk (blk_below H3.out hb); replace H5 := Aside0.mk (blk_below H5.out hb); replace H6 := Aside0.mk (blk_below H6.out hb); replace HB := Aside0.mk (Cl.bstep HB.out hb); obtain ⟨A6, c6, rfl⟩ := Kd.V_slice hV; clear hb hV yH3_0 yH3_1 yH3_2 yH3_3 yH5_0 yH5_1 yH5_2 yH5_3 yH6_0 yH6_1 yH6_2 yH6_3 zH6_0 zH6_1 zH6_2 zH6_3; obtain ⟨yH3_0, yH3_1, yH3_2, yH3_3⟩ := Cl.four H3.out; obtain ⟨yH5_0, yH5_1, yH5_2, yH5_3⟩ := Cl.four H5.out; obtain ⟨yH6_0, yH6_1, yH6_2, yH6_3⟩ := Cl.four H6.out; obtain ⟨zH6_0, zH6_1, zH6_2, zH6_3⟩ := Cl.ffour H6.out; have h := HH4.out
   (try dsimp only at h)
   cases t6 with
   | false =>
    rw [if_neg (by decide)] at h; have ha := below_alloc (Below.refl w6.heap.size w6) (.cells #[.int .i64 t1, .int .i64 t2, .string t3, .slice A6 t4.length c6] 26); replace Cn := Aside0.mk (Kd.C_below Cn.out ha); replace Cp := Aside0.mk (Kd.C_below Cp.out ha); replace Cb := Aside0.mk (Kd.C_below Cb.out ha); replace H3 := Aside0.mk (blk_below H3.out ha); replace H5 := Aside0.mk (blk_below H5.out ha); replace H6 := Aside0.mk (blk_below H6.out ha); replace HB := Aside0.mk (Cl.bstep HB.out ha); clear ha yH3_0 yH3_1 yH3_2 yH3_3 yH5_0 yH5_1 yH5_2 yH5_3 yH6_0 yH6_1 yH6_2 yH6_3 zH6_0 zH6_1 zH6_2 zH6_3; obtain ⟨yH3_0, yH3_1, yH3_2, yH3_3⟩ := Cl.four H3.out; obtain ⟨yH5_0, yH5_1, yH5_2, yH5_3⟩ := Cl.four H5.out; obtain ⟨yH6_0, yH6_1, yH6_2, yH6_3⟩ := Cl.four H6.out; obtain ⟨zH6_0, zH6_1, zH6_2, zH6_3⟩ := Cl.ffour H6.out; simp only [Option.some.injEq, Prod.mk.injEq] at h; obtain ⟨rfl, rfl, rfl, rfl, rfl⟩ := h; go_wp2_with fail; refine bodyPost_ret (results_ct rfl _ _ (w.heap.size + 1 + 1) 26 #[.int .i64 0, .int .i64 0, .string ⟨#[]⟩, .slice none 0 0] (0, 0) _ rfl (by refine blk_put (cs := #[.int .i64 0, .int .i64 0, .string ⟨#[]⟩, .slice none 0 0]) ?_ 3 _ rfl; refine blk_put (cs := #[.int .i64 0, .int .i64 0, .string ⟨#[]⟩, .slice none 0 0]) ?_ 2 _ rfl; refine blk_put (cs := #[.int .i64 0, .int .i64 0, .string ⟨#[]⟩, .slice none 0 0]) ?_ 1 _ rfl; refine blk_put (cs := #[.int .i64 0, .int .i64 0, .string ⟨#[]⟩, .slice none 0 0]) ?_ 0 _ rfl; exact H6.out) Try.underlying26 rfl (by kernel_rfl)) rfl ?_; exact ⟨_, rfl, Kd.R_nil _ _ _ _ _, below_set (below_set (below_set (below_set HB.out (by omega)) (by omega)) (by omega)) (by omega)⟩
   | true =>
    rw [if_pos rfl] at h; obtain ⟨⟨o1, o2, o3, o4⟩, E4, h⟩ := Option.bind_eq_some_iff.mp h; obtain ⟨b3, E5, h⟩ := Option.bind_eq_some_iff.mp h; have E4 := Aside0.mk E4; have E5 := Aside0.mk E5; have HH5 := Aside0.mk h; clear h HH4; have ha := below_alloc (Below.refl w6.heap.size w6) (.cells #[.int .i64 t1, .int .i64 t2, .string t3, .slice A6 t4.length c6] 26); replace Cn := Aside0.mk (Kd.C_below Cn.out ha); replace Cp := Aside0.mk (Kd.C_below Cp.out ha); replace Cb := Aside0.mk (Kd.C_below Cb.out ha); replace H3 := Aside0.mk (blk_below H3.out ha); replace H5 := Aside0.mk (blk_below H5.out ha); replace H6 := Aside0.mk (blk_below H6.out ha); replace HB := Aside0.mk (Cl.bstep HB.out ha); clear ha yH3_0 yH3_1 yH3_2 yH3_3 yH5_0 yH5_1 yH5_2 yH5_3 yH6_0 yH6_1 yH6_2 yH6_3 zH6_0 zH6_1 zH6_2 zH6_3; obtain ⟨yH3_0, yH3_1, yH3_2, yH3_3⟩ := Cl.four H3.out; obtain ⟨yH5_0, yH5_1, yH5_2, yH5_3⟩ := Cl.four H5.out; obtain ⟨yH6_0, yH6_1, yH6_2, yH6_3⟩ := Cl.four H6.out; obtain ⟨zH6_0, zH6_1, zH6_2, zH6_3⟩ := Cl.ffour H6.out; go_wp2_with fail; refine (tree_put.calls a0_0 a0_1 a0_2 _ A0_3 c0_3 l0_3 A1 c1 l1 a2_0 a2_1 a2_2 _ A2_3 c2_3 l2_3 o1 o2 o3 o4 _ (Kd.V_mk hc0_3 (Kd.C_F k26_heap Cn.out)) Cp.out hc1 (Kd.V_mk hc2_3 (Kd.C_F k26_heap Cb.out)) E4.out).mono ?_; rintro e w7 ⟨v4, rfl, hV, hb⟩; replace Cn := Aside0.mk (Kd.C_below Cn.out hb); replace Cp := Aside0.mk (Kd.C_below Cp.out hb); replace Cb := Aside0.mk (Kd.C_below Cb.out hb); replace H3 := Aside0.mk (blk_below H3.out hb); replace H5 := Aside0.mk (blk_below H5.out hb); replace H6 := Aside0.mk (blk_below H6.out hb); replace HB := Aside0.mk (Cl.bstep HB.out hb); obtain ⟨A7, c7, rfl⟩ := Kd.V_slice hV; obtain ⟨_, hoc, hCo⟩ := Kd.V_reads' hV; have Co := Aside0.mk hCo; clear hb hV hCo yH3_0 yH3_1 yH3_2 yH3_3 yH5_0 yH5_1 yH5_2 yH5_3 yH6_0 yH6_1 yH6_2 yH6_3 zH6_0 zH6_1 zH6_2 zH6_3; obtain ⟨yH3_0, yH3_1, yH3_2, yH3_3⟩ := Cl.four H3.out; obtain ⟨yH5_0, yH5_1, yH5_2, yH5_3⟩ := Cl.four H5.out; obtain ⟨yH6_0, yH6_1, yH6_2, yH6_3⟩ := Cl.four H6.out; obtain ⟨zH6_0, zH6_1, zH6_2, zH6_3⟩ := Cl.ffour H6.out; have ha := below_alloc (Below.refl w7.heap.size w7) (.cells #[.int .i64 o1, .int .i64 o2, .string o3, .slice A7 o4.length c7] 26)
    have H11 : Aside0 ((w7.alloc (.cells #[.int .i64 o1, .int .i64 o2, .string o3, .slice A7 o4.length c7] 26)).heap[w7.heap.size]? = some (.cells #[.int .i64 o1, .int .i64 o2, .string o3, .slice A7 o4.length c7] 26 (0, 0))) := ⟨blk_new w7 _⟩
    replace Cn := Aside0.mk (Kd.C_below Cn.out ha); replace Cp := Aside0.mk (Kd.C_below Cp.out ha); replace Cb := Aside0.mk (Kd.C_below Cb.out ha); replace H3 := Aside0.mk (blk_below H3.out ha); replace H5 := Aside0.mk (blk_below H5.out ha); replace H6 := Aside0.mk (blk_below H6.out ha); replace HB := Aside0.mk (Cl.bstep HB.out ha); replace Co := Aside0.mk (Kd.C_below Co.out ha); clear ha yH3_0 yH3_1 yH3_2 yH3_3 yH5_0 yH5_1 yH5_2 yH5_3 yH6_0 yH6_1 yH6_2 yH6_3 zH6_0 zH6_1 zH6_2 zH6_3; obtain ⟨yH3_0, yH3_1, yH3_2, yH3_3⟩ := Cl.four H3.out; obtain ⟨yH5_0, yH5_1, yH5_2, yH5_3⟩ := Cl.four H5.out; obtain ⟨yH6_0, yH6_1, yH6_2, yH6_3⟩ := Cl.four H6.out; obtain ⟨zH6_0, zH6_1, zH6_2, zH6_3⟩ := Cl.ffour H6.out; obtain ⟨yH11_0, yH11_1, yH11_2, yH11_3⟩ := Cl.four H11.out; go_wp2_with fail; refine (tree_IsFormed.calls k o1 o2 o3 A7 c7 o4 b3 _ Co.out hoc E5.out).mono ?_; rintro e w8 ⟨rfl, hb⟩; replace Cn := Aside0.mk (Kd.C_below Cn.out hb); replace Cp := Aside0.mk (Kd.C_below Cp.out hb); replace Cb := Aside0.mk (Kd.C_below Cb.out hb); replace H3 := Aside0.mk (blk_below H3.out hb); replace H5 := Aside0.mk (blk_below H5.out hb); replace H6 := Aside0.mk (blk_below H6.out hb); replace HB := Aside0.mk (Cl.bstep HB.out hb); replace Co := Aside0.mk (Kd.C_below Co.out hb); replace H11 := Aside0.mk (blk_below H11.out hb); clear hb yH3_0 yH3_1 yH3_2 yH3_3 yH5_0 yH5_1 yH5_2 yH5_3 yH6_0 yH6_1 yH6_2 yH6_3 zH6_0 zH6_1 zH6_2 zH6_3 yH11_0 yH11_1 yH11_2 yH11_3; obtain ⟨yH3_0, yH3_1, yH3_2, yH3_3⟩ := Cl.four H3.out; obtain ⟨yH5_0, yH5_1, yH5_2, yH5_3⟩ := Cl.four H5.out; obtain ⟨yH6_0, yH6_1, yH6_2, yH6_3⟩ := Cl.four H6.out; obtain ⟨zH6_0, zH6_1, zH6_2, zH6_3⟩ := Cl.ffour H6.out; obtain ⟨yH11_0, yH11_1, yH11_2, yH11_3⟩ := Cl.four H11.out; have h := HH5.out
    (try dsimp only at h)
    cases b3 with
    | false =>
     rw [if_neg (by decide)] at h; simp only [Option.some.injEq, Prod.mk.injEq] at h; obtain ⟨rfl, rfl, rfl, rfl, rfl⟩ := h; go_wp2_with fail; refine bodyPost_ret (results_ct rfl _ _ (w.heap.size + 1 + 1) 26 #[.int .i64 0, .int .i64 0, .string ⟨#[]⟩, .slice none 0 0] (0, 0) _ rfl (by refine blk_put (cs := #[.int .i64 0, .int .i64 0, .string ⟨#[]⟩, .slice none 0 0]) ?_ 3 _ rfl; refine blk_put (cs := #[.int .i64 0, .int .i64 0, .string ⟨#[]⟩, .slice none 0 0]) ?_ 2 _ rfl; refine blk_put (cs := #[.int .i64 0, .int .i64 0, .string ⟨#[]⟩, .slice none 0 0]) ?_ 1 _ rfl; refine blk_put (cs := #[.int .i64 0, .int .i64 0, .string ⟨#[]⟩, .slice none 0 0]) ?_ 0 _ rfl; exact H6.out) Try.underlying26 rfl (by kernel_rfl)) rfl ?_; exact ⟨_, rfl, Kd.R_nil _ _ _ _ _, below_set (below_set (below_set (below_set HB.out (by omega)) (by omega)) (by omega)) (by omega)⟩
    | true =>
     rw [if_pos rfl] at h; obtain ⟨⟨q1, q2, q3, q4⟩, E6, h⟩ := Option.bind_eq_some_iff.mp h; have E6 := Aside0.mk E6; simp only [Option.some.injEq, Prod.mk.injEq] at h; obtain ⟨rfl, rfl, rfl, rfl, rfl⟩ := h; clear HH5; have HS := Aside0.mk HB.out.size; have HL := Aside0.mk (blk_lt H6.out); go_wp2_with fail; refine (tree_Clone.calls k o1 o2 o3 A7 c7 o4 q1 q2 q3 q4 _ Co.out hoc E6.out).mono ?_; rintro e w9 ⟨v9, rfl, hR, hb⟩; replace Cn := Aside0.mk (Kd.C_below Cn.out hb); replace Cp := Aside0.mk (Kd.C_below Cp.out hb); replace Cb := Aside0.mk (Kd.C_below Cb.out hb); replace H3 := Aside0.mk (blk_below H3.out hb); replace H5 := Aside0.mk (blk_below H5.out hb); replace H6 := Aside0.mk (blk_below H6.out hb); replace HB := Aside0.mk (Cl.bstep HB.out hb); replace Co := Aside0.mk (Kd.C_below Co.out hb); replace H11 := Aside0.mk (blk_below H11.out hb); obtain ⟨A9, c9, rfl⟩ := Kd.R_slice hR; have HR := Aside0.mk (Kd.R_mono (ok' := fun k => k ≠ w.heap.size + 1 + 1) (Kd.R_lower (Kd.R_bound hR) HS.out) (fun k hk => by have h1 := hk.2.1; have h2 := HL.out; omega)); clear hb hR yH3_0 yH3_1 yH3_2 yH3_3 yH5_0 yH5_1 yH5_2 yH5_3 yH6_0 yH6_1 yH6_2 yH6_3 zH6_0 zH6_1 zH6_2 zH6_3 yH11_0 yH11_1 yH11_2 yH11_3; obtain ⟨yH3_0, yH3_1, yH3_2, yH3_3⟩ := Cl.four H3.out; obtain ⟨yH5_0, yH5_1, yH5_2, yH5_3⟩ := Cl.four H5.out; obtain ⟨yH6_0, yH6_1, yH6_2, yH6_3⟩ := Cl.four H6.out; obtain ⟨zH6_0, zH6_1, zH6_2, zH6_3⟩ := Cl.ffour H6.out; obtain ⟨yH11_0, yH11_1, yH11_2, yH11_3⟩ := Cl.four H11.out; go_wp2_with fail; refine bodyPost_ret (results_ct rfl _ _ (w.heap.size + 1 + 1) 26 #[.int .i64 q1, .int .i64 q2, .string q3, .slice A9 q4.length c9] (0, 0) _ rfl (by refine blk_put (cs := #[.int .i64 q1, .int .i64 q2, .string q3, .slice none 0 0]) ?_ 3 _ rfl; refine blk_put (cs := #[.int .i64 q1, .int .i64 q2, .string ⟨#[]⟩, .slice none 0 0]) ?_ 2 _ rfl; refine blk_put (cs := #[.int .i64 q1, .int .i64 0, .string ⟨#[]⟩, .slice none 0 0]) ?_ 1 _ rfl; refine blk_put (cs := #[.int .i64 0, .int .i64 0, .string ⟨#[]⟩, .slice none 0 0]) ?_ 0 _ rfl; exact H6.out) Try.underlying26 rfl (by kernel_rfl)) rfl ?_; exact ⟨_, rfl, Kd.R_mono (Kd.R_far (p := ⟨w.heap.size + 1 + 1, 3, none⟩) (Kd.R_far (p := ⟨w.heap.size + 1 + 1, 2, none⟩) (Kd.R_far (p := ⟨w.heap.size + 1 + 1, 1, none⟩) (Kd.R_far (p := ⟨w.heap.size + 1 + 1, 0, none⟩) HR.out (fun _ hk => hk) _) (fun _ hk => hk) _) (fun _ hk => hk) _) (fun _ hk => hk) _) (fun _ _ => trivial), below_set (below_set (below_set (below_set HB.out (by omega)) (by omega)) (by omega)) (by omega)⟩

end Go.Proofs.Ytnafnieocpkkhaa.P

set_option linter.unusedVariables false
set_option linter.unusedSimpArgs false
namespace Go.Proofs.Ytnafnieocpkkhaa.P
open Go.RowKit Go.Proofs.YtnafnieocpkkhaaW.PrintWords Go.Proofs.YtnafnieocpkkhaaW.PrintLast Go.Proofs.YtnafnieocpkkhaaW.PrintMore
/-! ### Put -/
def putp : List Int → Nd → Nd → Nd
 | [], _, b => b
 | i :: p, n, b => match n.f2[i.toNat]? with
  | some x => ⟨n.f0, n.f1, n.f2.set i.toNat (putp p x b)⟩
  | none => n
theorem sum_set {f : Nd → Nat} {y : Nd} : ∀ {l : List Nd} {i : Nat} {x : Nd}, l[i]? = some x → ((l.set i y).map f).sum + f x = (l.map f).sum + f y := by
 intro l
 induction l with
 | nil => intro i x h; simp at h
 | cons a r ih =>
  intro i x h
  cases i with
  | zero =>
   simp only [List.getElem?_cons_zero, Option.some.injEq] at h; subst h
   simp
   omega
  | succ i =>
   simp only [List.getElem?_cons_succ] at h; have := ih h; simp only [List.set_cons_succ, List.map_cons, List.sum_cons]
   omega
theorem putp_nd (b : Nd) : ∀ (p : List Int) (n : Nd), nd (putp p n b) ≤ nd n + nd b := by
 intro p
 induction p with
 | nil => intro n; rw [putp]; omega
 | cons i p ih =>
  intro n; rw [putp]
  cases h : n.f2[i.toNat]? with
  | none => simp
  | some x =>
   have h1 := sum_set (f := nd) (y := putp p x b) h; have h2 := ih x; have h3 := nd_eq (⟨n.f0, n.f1, n.f2.set i.toNat (putp p x b)⟩ : Nd); have h4 := nd_eq n; simp only at h3 ⊢
   omega
theorem putp_wd (b : Nd) : ∀ (p : List Int) (n : Nd), wd (putp p n b) ≤ wd n + wd b := by
 intro p
 induction p with
 | nil => intro n; rw [putp]; omega
 | cons i p ih =>
  intro n; rw [putp]
  cases h : n.f2[i.toNat]? with
  | none => simp
  | some x =>
   have h1 := sum_set (f := wd) (y := putp p x b) h; have h2 := ih x; have h3 := wd_eq (⟨n.f0, n.f1, n.f2.set i.toNat (putp p x b)⟩ : Nd); have h4 := wd_eq n; simp only at h3 ⊢
   omega
theorem put_go (b : Nd) : ∀ (p : List Int) (n : Nd), sm n → (atp p n).isSome = true → tree_put.go p n b = some (putp p n b) := by
 intro p
 induction p with
 | nil => intro n _ _; rfl
 | cons i p ih =>
  intro n hs h; rw [atp] at h
  split at h
  ·rename_i h0
   cases e : n.f2[i.toNat]? with
   | none => rw [e] at h; cases h
   | some x =>
    rw [e, Option.bind_some, Option.isSome_map] at h; rw [tree_put.go, if_pos hs.len, if_pos h0, e, Option.bind_some, ih x (hs.kid (List.mem_of_getElem? e)) h, putp, e]; rfl
  ·cases h
/-- What Put answers. -/
def putans (m x : Nd) (p : List Int) : Nd × Int :=
 if fmd m = true ∧ fmd x = true then (if (atp p m).isSome = true then (if fmd (putp p m x) = true then (putp p m x, 0) else (⟨0, ⟨0, ⟨#[]⟩⟩, []⟩, 4)) else (⟨0, ⟨0, ⟨#[]⟩⟩, []⟩, 2)) else (⟨0, ⟨0, ⟨#[]⟩⟩, []⟩, 4)
theorem Put_ev (m x : Nd) (p : List Int) (hm : sm m) (hx : sm x) (hmx : wd m + wd x ≤ 1000000000 ∧ nd m + nd x ≤ 1000000) (hp : p.length ≤ 1000000000) :
  Ev (fun k => tree_Put.f k m.f0 m.f1.f0 m.f1.f1 m.f2 p x.f0 x.f1.f0 x.f1.f1 x.f2) ((putans m x p).1.f0, (putans m x p).1.f1.f0, (putans m x p).1.f1.f1, (putans m x p).1.f2, (putans m x p).2) := by
 unfold tree_Put.f putans; refine Ev.bind (IsFormed_ev m hm) ?_; by_cases h1 : fmd m = true
 ·refine Ev.pos h1 (Ev.bind (IsFormed_ev x hx) ?_); by_cases h2 : fmd x = true
  ·rw [if_pos ⟨h1, h2⟩]; refine Ev.pos h2 (Ev.bind (at_ev m p hm hp) ?_); by_cases h3 : (atp p m).isSome = true
   ·rw [if_pos h3]; have hg := put_go x p m hm h3; obtain ⟨z, hz⟩ := Option.isSome_iff_exists.1 h3
    have e1 : (ans 0 (atp p m)).2.2.2.2.2 = true := (by rw [hz]; rfl)
    refine Ev.pos e1 ?_
    have e2 : tree_put.f m.f0 m.f1.f0 m.f1.f1 m.f2 p x.f0 x.f1.f0 x.f1.f1 x.f2 = some ((putp p m x).f0, (putp p m x).f1.f0, (putp p m x).f1.f1, (putp p m x).f2) := by
     unfold tree_put.f; rw [Nd.eta, Nd.eta, hg]; rfl
    refine Ev.bind1 e2 ?_; have hw := putp_wd x p m; have hn := putp_nd x p m
    have hsp : sm (putp p m x) := ⟨by omega, by omega⟩
    refine Ev.bind (IsFormed_ev _ hsp) ?_; by_cases h4 : fmd (putp p m x) = true
    ·rw [if_pos h4]; exact Ev.pos h4 (Ev.bind (clone_ev _ hsp) (Ev.now _))
    ·rw [if_neg h4]; exact Ev.neg h4 (Ev.now _)
   ·rw [if_neg h3]
    have e1 : ¬ (ans 0 (atp p m)).2.2.2.2.2 = true := by
     cases hz : atp p m with
     | none => intro h; cases h
     | some z => rw [hz] at h3; exact absurd rfl h3
    exact Ev.neg e1 (Ev.now _)
  ·rw [if_neg (fun h => h2 h.2)]; exact Ev.neg h2 (Ev.now _)
 ·rw [if_neg (fun h => h1 h.1)]; exact Ev.neg h1 (Ev.now _)
end Go.Proofs.Ytnafnieocpkkhaa.P

namespace Go.Proofs.Ytnafnieocpkkhaa.P
open Go.RowKit Go.Proofs.YtnafnieocpkkhaaW.PrintWords Go.Proofs.YtnafnieocpkkhaaW.PrintLast Go.Proofs.YtnafnieocpkkhaaW.PrintMore
attribute [local go_sem] max2_int min2_int max_two min_two max_three min_three max_four min_four
set_option linter.unusedVariables false
set_option linter.unusedSimpArgs false

def tree_text.all (g : S26 → List UInt8 → Option (List UInt8)) : List (S26) → List UInt8 → Option (List UInt8)
 | [], acc => some acc
 | x :: r, acc => (g x acc).bind fun a => tree_text.all g r a
def tree_text.go : Nat → S26 → List UInt8 → Option (List UInt8)
 | 0, _, _ => none
 | k + 1, n, acc => if acc.length + n.f1.f1.size ≤ 140737488355328 then tree_text.all (tree_text.go k) n.f2 (acc ++ n.f1.f1.data.toList) else none
def tree_text.f (k : Nat) (a0_0 : Int) (a0_1 : Int) (a0_2 : ByteArray) (l0_3 : List (S26)) : Option (ByteArray) := (tree_text.go k ⟨a0_0, ⟨a0_1, a0_2⟩, l0_3⟩ []).bind fun l => some ⟨l.toArray⟩
def tree_text.Holds (k : Nat) (w0 : World) (b : Nat) : Prop := ∀ (n : S26) (A : Option Addr) (cc : Nat) (acc r : List UInt8) (w : World), n.f2.length ≤ cc → Kd.C k26 w0 A n.f2.length n.f2 → Below w0.heap.size w0 w → Bld.IsB w0.heap.size b acc w → tree_text.go k n acc = some r →
 Calls Try.prog 83 #[.pointer (some ⟨b, 0, none⟩), .agg #[.int .i64 n.f0, .int .i64 n.f1.f0, .string n.f1.f1, .slice A n.f2.length cc]] w fun e w' => e = .returned (.tuple #[]) ∧ Bld.IsB w0.heap.size b r w' ∧ Below w0.heap.size w0 w'
set_option maxHeartbeats 8000000 in
set_option maxRecDepth 100000 in
theorem tree_text.write_ok (w0 : World) (b : Nat) : ∀ k, tree_text.Holds k w0 b := by
 have hu := Try.underlying26; have hu2 := Try.underlying23; intro k
 induction k with
 | zero =>
  intro n A cc acc r w hcc hC hB hI h
  simp [tree_text.go] at h
 | succ k ih =>
  intro n A cc acc r w hcc hC hB hI h; rw [tree_text.go] at h; obtain ⟨hlen, h⟩ := Ut.ite_some h; have HH := Aside0.mk h; have HC := Aside0.mk hC; have IH := Aside0.mk ih; have hmax : n.f2.length ≤ 9223372036854775807 := hC.2.1; have HB := Aside0.mk (below_alloc hB (.cells #[.int .i64 n.f0, .int .i64 n.f1.f0, .string n.f1.f1, .slice A n.f2.length cc] 26)); have HI := Aside0.mk (hI.alloc (.cells #[.int .i64 n.f0, .int .i64 n.f1.f0, .string n.f1.f1, .slice A n.f2.length cc] 26)); have HO := Aside0.mk (blk_new w (.cells #[.int .i64 n.f0, .int .i64 n.f1.f0, .string n.f1.f1, .slice A n.f2.length cc] 26)); have hbl := hI.lt; have HNE := Aside0.mk (show w.heap.size ≠ b by omega); clear h hC ih hB hI hbl; go_enter Try.func83, Try.ntmps83
  go_wp2_with (go_at_call 92; refine (Bld.write w0.heap.size b acc n.f1.f1 _ HI.out hlen (below_size HB.out)).mono ?_; rintro e w1 ⟨rfl, hI1, hb1, hk1⟩; have HI1 := Aside0.mk hI1; have HB1 := Aside0.mk (HB.out.trans hb1); have z3 : w1.cell? ⟨w.heap.size, 3, none⟩ = some (.slice A n.f2.length cc) := Lib.cell_of_heap (hk1 _ _ HO.out (fun e => HNE.out (Option.some.inj e)) (by intro c fz e; injection e with _ e2; exact absurd e2 (by decide))) 3; clear hI1 hb1 hk1)
  go_loopg [14] n.f2.length (fun kq v14 w' => ∃ (i : Nat) (ac : List UInt8), v14 = .int .i64 (i : Int) ∧ Aside0 (i + kq = n.f2.length) ∧ Aside0 (tree_text.all (tree_text.go k) (n.f2.drop i) ac = some r) ∧ Aside0 (Bld.IsB w0.heap.size b ac w') ∧ Aside0 (Below w0.heap.size w0 w'))
  case atStart => exact ⟨0, _, rfl, ⟨by omega⟩, HH, HI1, HB1⟩
  case round =>
   clear HH HI HB HI1 HB1 z3; obtain ⟨i, ac, rfl, HK, HH, HI, HB⟩ := hrel; by_cases hlt : i < n.f2.length
   ·have hd1 : decide ((i : Int) < (n.f2.length : Int)) = true := decide_eq_true (by omega); have H := HH.out; rw [List.drop_eq_getElem_cons hlt] at H; simp only [tree_text.all] at H; obtain ⟨a, ha, Hn⟩ := Option.bind_eq_some_iff.mp H; clear H
    have hrd : rd_T26 n.f2 (i : Int) = n.f2[i] := (by simp [rd_T26, hlt])
    obtain ⟨ad, A3, c3, e, hx0, hx1, hx2, hx3, hl3, hC3⟩ := at_T26 HC.out (i : Int) (by omega) (by omega); rw [hrd] at hx0 hx1 hx2 hx3 hl3 hC3; rw [Int.toNat_natCast] at hx0 hx1 hx2 hx3
    cases e
    replace hx0 := (HB.out.cell (World.block_lt_of_cell? w0 _ hx0)).trans hx0; replace hx1 := (HB.out.cell (World.block_lt_of_cell? w0 _ hx1)).trans hx1; replace hx2 := (HB.out.cell (World.block_lt_of_cell? w0 _ hx2)).trans hx2; replace hx3 := (HB.out.cell (World.block_lt_of_cell? w0 _ hx3)).trans hx3; clear hrd HH; generalize n.f2[i] = x at *; have HCall := Aside0.mk (IH.out x A3 c3 ac a (wr.alloc (.cells #[.int .i64 x.f0, .int .i64 x.f1.f0, .string x.f1.f1, .slice A3 x.f2.length c3] 26)) hl3 hC3 (below_alloc HB.out _) (HI.out.alloc _) ha); have HH2 := Aside0.mk Hn; clear Hn ha hl3 hC3
    cases gk with
    | zero => exact absurd hlt (by have := HK.out; omega)
    | succ kq' =>
    go_wp2_with (go_at_call 83; refine HCall.out.mono ?_; rintro e w2 ⟨rfl, h1, h2⟩; have H1 := Aside0.mk h1; have H2 := Aside0.mk h2; clear h1 h2)
    go_roundg kq'
    case measure => omega
    case rel => exact ⟨i + 1, _, by go_num, ⟨by have := HK.out; omega⟩, HH2, H1, H2⟩
   ·have hd1 : decide ((i : Int) < (n.f2.length : Int)) = false := decide_eq_false (by omega); have H := HH.out; rw [List.drop_of_length_le (by have := HK.out; omega)] at H; simp only [tree_text.all, Option.some.injEq] at H; subst H; go_wp2_with fail; go_end0; exact ⟨rfl, HI.out, HB.out⟩
set_option maxHeartbeats 8000000 in
set_option maxRecDepth 100000 in
theorem tree_text.calls (k : Nat) (a0_0 : Int) (a0_1 : Int) (a0_2 : ByteArray) (A0_3 : Option Addr) (c0_3 : Nat) (l0_3 : List (S26)) (r : ByteArray) (w : World) (hr0_3 : Kd.C k26 w A0_3 l0_3.length l0_3) (hc0_3 : l0_3.length ≤ c0_3) (h : tree_text.f k a0_0 a0_1 a0_2 l0_3 = some r) :
  Calls Try.prog 61 #[.agg #[.int .i64 a0_0, .int .i64 a0_1, .string a0_2, .slice A0_3 l0_3.length c0_3]] w fun e w' => e = .returned (.string r) ∧ Below w.heap.size w w' := by
 have hu := Try.underlying26; obtain ⟨l, hl, h⟩ := Option.bind_eq_some_iff.mp h; injection h with h; subst h; have hB := below_alloc (below_alloc (Below.refl w.heap.size w) (.cells #[.int .i64 a0_0, .int .i64 a0_1, .string a0_2, .slice A0_3 l0_3.length c0_3] 26)) (.cells #[.pointer none, .slice none 0 0] 114)
 have hI : Bld.IsB w.heap.size (w.heap.size + 1) [] ((w.alloc (.cells #[.int .i64 a0_0, .int .i64 a0_1, .string a0_2, .slice A0_3 l0_3.length c0_3] 26)).alloc (.cells #[.pointer none, .slice none 0 0] 114)) := by
  have := Bld.IsB.new (B := w.heap.size) (w := w.alloc (.cells #[.int .i64 a0_0, .int .i64 a0_1, .string a0_2, .slice A0_3 l0_3.length c0_3] 26)) (by simp)
  simpa using this
 have HF := Aside0.mk (tree_text.write_ok w (w.heap.size + 1) k ⟨a0_0, ⟨a0_1, a0_2⟩, l0_3⟩ A0_3 c0_3 [] l _ hc0_3 hr0_3 hB hI hl); clear hl hB hI hr0_3; go_enter Try.func61, Try.ntmps61
 go_wp2_with (first | (go_at_call 83; refine HF.out.mono ?_; rintro e w1 ⟨rfl, h1, h2⟩; have HI := Aside0.mk h1; have HB := Aside0.mk h2; clear h1 h2) | (go_at_call 84; refine (Bld.string w.heap.size (w.heap.size + 1) l _ HI.out (below_size HB.out)).mono ?_; rintro e w2 ⟨rfl, hb2⟩; have HB2 := Aside0.mk (HB.out.trans hb2); clear hb2))
 go_ret; exact ⟨rfl, HB2.out⟩

end Go.Proofs.Ytnafnieocpkkhaa.P

