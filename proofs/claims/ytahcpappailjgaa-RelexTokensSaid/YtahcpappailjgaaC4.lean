/- What the claim's row needs of the seat's texts, part 4: put together by a program of this session (declarations that no text of the claim names are left out). -/
import Derived.IntWalk
import Derived.Test.YtahcpappailjgaaC3
set_option linter.unusedVariables false
set_option linter.unusedSimpArgs false
namespace Go.Proofs.Ytahcpappailjgaa.P
open Go.RowKit Go.Proofs.YtahcpappailjgaaW.PrintWords Go.Proofs.YtahcpappailjgaaW.PrintLast Go.Proofs.YtahcpappailjgaaW.PrintMore
/-! ### bytes -/
abbrev Bs := List UInt8
theorem bt_drop {s : ByteArray} {i : Nat} {c : UInt8} {r : Bs} (h : s.data.toList.drop i = c :: r) : i < s.size ∧ bt s (i : Int) = (c.toNat : Int) := by
 have h0 : i < s.size := by
  have := congrArg List.length h; simp only [List.length_drop, List.length_cons] at this; rw [Ut.size_data] at this
  omega
 refine ⟨h0, ?_⟩; rw [← bt_at s (i : Int) h0]
 have h1 : s.data.toList[i]? = some c := by
  have := congrArg (fun x : Bs => x[0]?) h
  simpa [List.getElem?_drop] using this
 have h2 : s.data[i]? = some c := (by rw [← Array.getElem?_toList]; exact h1)
 have h3 : s.data[i]? = some (s.data[i]'h0) := Array.getElem?_eq_getElem h0; rw [h3] at h2; injection h2 with h2
 show ((s.data[i]'h0).toNat : Int) = _
 rw [h2]
theorem nil_drop {s : ByteArray} {i : Nat} (h : s.data.toList.drop i = []) : s.size ≤ i := by
 have := le_of_nil h; rw [Ut.size_data] at this; exact this
theorem ext_list (s : ByteArray) (a b : Nat) : (s.extract a b).data.toList = (s.data.toList.drop a).take (b - a) := by
 rw [ByteArray.data_extract, Array.toList_extract, List.extract_eq_take_drop]
theorem drop_cons_of_lt {s : ByteArray} {i : Nat} (h : i < s.size) : ∃ c r, s.data.toList.drop i = c :: r := by
 cases e : s.data.toList.drop i with
 | nil => have := nil_drop e; omega
 | cons c r => exact ⟨c, r, rfl⟩
def bk (c : UInt8) : Bool := c == 32 || c == 9 || c == 10 || c == 13
def lt (c : UInt8) : Bool := (decide (97 ≤ c.toNat) && decide (c.toNat ≤ 122)) || (decide (65 ≤ c.toNat) && decide (c.toNat ≤ 90)) || c == 95
def dg (c : UInt8) : Bool := decide (48 ≤ c.toNat) && decide (c.toNat ≤ 57)
def ld (c : UInt8) : Bool := lt c || dg c
theorem byte_all {P : UInt8 → Prop} [DecidablePred P] (h : ∀ n : Fin 256, P (UInt8.ofNat n.val)) (c : UInt8) : P c := by
 have := h ⟨c.toNat, UInt8.toNat_lt c⟩
 simpa using this
theorem iblank (c : UInt8) : token_isBlank.f (c.toNat : Int) = some (bk c) := byte_all (P := fun c => token_isBlank.f (c.toNat : Int) = some (bk c)) (by decide +kernel) c
theorem iletter (c : UInt8) : token_isLetter.f (c.toNat : Int) = some (lt c) := byte_all (P := fun c => token_isLetter.f (c.toNat : Int) = some (lt c)) (by decide +kernel) c
theorem idigit (c : UInt8) : token_isDigit.f (c.toNat : Int) = some (dg c) := byte_all (P := fun c => token_isDigit.f (c.toNat : Int) = some (dg c)) (by decide +kernel) c
theorem rblank (c : UInt8) : marginaliaref03_Blank.f (c.toNat : Int) = some (bk c) := byte_all (P := fun c => marginaliaref03_Blank.f (c.toNat : Int) = some (bk c)) (by decide +kernel) c
theorem rletter (c : UInt8) : marginaliaref03_Letter.f (c.toNat : Int) = some (lt c) := byte_all (P := fun c => marginaliaref03_Letter.f (c.toNat : Int) = some (lt c)) (by decide +kernel) c
theorem rdigit (c : UInt8) : marginaliaref03_Digit.f (c.toNat : Int) = some (dg c) := byte_all (P := fun c => marginaliaref03_Digit.f (c.toNat : Int) = some (dg c)) (by decide +kernel) c
theorem iletdig (c : UInt8) : token_good.letdig (c.toNat : Int) = some (ld c) := by
 unfold token_good.letdig ld; rw [iletter]
 show (if lt c = true then some true else token_isDigit.f (c.toNat : Int)) = _
 rw [idigit]
 cases lt c <;> rfl
/-- How many bytes at the beginning are of a sort. -/
def rn (p : UInt8 → Bool) : Bs → Nat
 | [] => 0
 | c :: r => if p c = true then rn p r + 1 else 0
theorem rn_le (p : UInt8 → Bool) : ∀ l, rn p l ≤ l.length
 | [] => Nat.le_refl _
 | c :: r => by
  rw [rn]
  split
  ·have := rn_le p r; simp only [List.length_cons]; omega
  ·omega
theorem irun {q : Int → Option Bool} {p : UInt8 → Bool} (h : ∀ c : UInt8, q (c.toNat : Int) = some (p c)) : ∀ l : Bs, token_good.run q l = some (rn p l)
 | [] => rfl
 | c :: r => by
  rw [token_good.run, h c, rn]
  show (if p c = true then (token_good.run q r).map (· + 1) else some 0) = _
  split
  ·rw [irun h r]; rfl
  ·rfl
def nl (c : UInt8) : Bool := c != 10
theorem index_rn (l : Bs) : (Lib.indexByte l 10 = -1 ∧ rn nl l = l.length) ∨ Lib.indexByte l 10 = (rn nl l : Int) := by
 induction l with
 | nil => exact .inl ⟨rfl, rfl⟩
 | cons c r ih =>
  rw [Lib.indexByte, rn]; by_cases hc : c = 10
  ·subst hc
   right
   simp [nl]
  ·have h1 : (c == 10) = false := beq_eq_false_iff_ne.2 hc
   have h2 : nl c = true := (by simp [nl, hc])
   rw [if_neg (by rw [h1]; decide), if_pos h2]
   rcases ih with ⟨e1, e2⟩ | e
   ·rw [e1]
    left
    exact ⟨by simp, by simp [e2]⟩
   ·right
    rw [e]; have : ((rn nl r : Int) == -1) = false := beq_eq_false_iff_ne.2 (by omega); rw [this]
    simp
theorem iline (s : ByteArray) : token_line.f s = some (rn nl s.data.toList : Int) := by
 unfold token_line.f strings_IndexByte.f
 show (if Lib.indexByte s.data.toList 10 ≥ 0 then _ else _) = _
 rcases index_rn s.data.toList with ⟨e1, e2⟩ | e
 ·rw [e1, if_neg (by decide), e2, Ut.size_data]
 ·have e' : Lib.indexByte s.data.toList (Int.toNat 10).toUInt8 = (rn nl s.data.toList : Int) := e; rw [e, if_pos (by omega), e']
/-! ### words and signs -/
def ws : List Bs := [[100, 101, 102], [101, 108, 115, 101], [102, 97, 108, 115, 101], [102, 110], [105, 102], [105, 109, 112, 111, 114, 116], [105, 110], [108, 101, 116], [109, 97, 116, 99, 104], [116, 104, 101, 110], [116, 114, 117, 101], [116, 121, 112, 101]]
def sg : List Bs := [[33], [38, 38], [40], [41], [42], [43], [44], [45], [45, 62], [46], [58], [59], [60], [61], [61, 61], [61, 62], [91], [93], [123], [124], [124, 124], [125]]
def chain (x : Bs) : List Bs → Option Bool
 | [] => some false
 | y :: r => if x = y then some true else chain x r
theorem chain_eq (x : Bs) : ∀ l, chain x l = some (decide (x ∈ l))
 | [] => by simp [chain]
 | y :: r => by
  rw [chain, chain_eq x r]; by_cases h : x = y
  ·simp [h]
  ·simp [h]
theorem iword (s : ByteArray) : token_isWord.f s = some (decide (s.data.toList ∈ ws)) := by
 rw [← chain_eq, ← Lib.toList_data]; rfl
theorem isign (s : ByteArray) : token_isSign.f s = some (decide (s.data.toList ∈ sg)) := by
 rw [← chain_eq, ← Lib.toList_data]; rfl
theorem has_loop (l : List ByteArray) (x : ByteArray) (hl : l.length ≤ 100) : ∀ (r : List ByteArray) (i : Nat), l.drop i = r → Ev (fun k => marginaliaref03_has.l0 k l x (i : Int)) (decide (x.data.toList ∈ r.map fun y => y.data.toList)) := by
 intro r
 induction r with
 | nil =>
  intro i h; have := le_of_nil h; refine Ev.shift ?_; simp only [marginaliaref03_has.l0]; exact Ev.neg (by omega) (Ev.now _)
 | cons e r ih =>
  intro i h; have hlt := lt_of_drop h; refine Ev.shift ?_; simp only [marginaliaref03_has.l0]
  have he : rdOf ByteArray.empty l (i : Int) = e := by
   have h1 : l[i]? = some e := by
    have := congrArg (fun x : List ByteArray => x[0]?) h
    simpa [List.getElem?_drop] using this
   simp [rdOf, List.getD_eq_getElem?_getD, h1]
  rw [he, Lib.toList_data, Lib.toList_data]; refine Ev.pos (by omega) (Ev.pos (by omega) ?_); by_cases hx : e.data.toList = x.data.toList
  ·refine Ev.pos hx ?_; rw [show decide (x.data.toList ∈ (e :: r).map fun y : ByteArray => y.data.toList) = true by simp [hx]]; exact Ev.now _
  ·refine Ev.neg hx ?_
   have hd : decide (x.data.toList ∈ (e :: r).map fun y : ByteArray => y.data.toList) = decide (x.data.toList ∈ r.map fun y : ByteArray => y.data.toList) := by
    rw [List.map_cons]; exact decide_eq_decide.2 ⟨fun h => (List.mem_cons.1 h).elim (fun h => absurd h.symm hx) id, fun h => List.mem_cons_of_mem _ h⟩
   rw [w64 (n := (i : Int) + 1) (by omega) (by omega), hd]
   exact_mod_cast ih (i + 1) (drop_next h)
theorem has_words (x : ByteArray) : ∃ l, marginaliaref03_Words.f = some l ∧ Ev (fun k => marginaliaref03_has.f k l x) (decide (x.data.toList ∈ ws)) :=
 ⟨_, rfl, has_loop _ x (by decide) _ 0 rfl⟩
theorem has_signs (x : ByteArray) : ∃ l, marginaliaref03_Signs.f = some l ∧ Ev (fun k => marginaliaref03_has.f k l x) (decide (x.data.toList ∈ sg)) :=
 ⟨_, rfl, has_loop _ x (by decide) _ 0 rfl⟩
/-- The bytes of the sign at the beginning. -/
def sn (l : Bs) : Nat := if 2 ≤ l.length ∧ l.take 2 ∈ sg then 2 else if l.take 1 ∈ sg then 1 else 0
theorem isn (s : ByteArray) (h0 : 0 < s.size) (hz : s.size ≤ 1000000000) : Ev (fun k => token_sign.f k s) (sn s.data.toList : Int) := by
 have hl := Ut.size_data s; have e2 : (s.extract 0 2).data.toList = s.data.toList.take 2 := ext_list s 0 2; have e1 : (s.extract 0 1).data.toList = s.data.toList.take 1 := ext_list s 0 1
 have one : Ev (fun k => token_sign.l0 k s 1) ((if s.data.toList.take 1 ∈ sg then 1 else 0 : Nat) : Int) := by
  refine Ev.shift ?_; simp only [token_sign.l0]; refine Ev.pos (by decide) (Ev.pos (by decide) (Ev.pos (by omega) ?_)); refine Ev.bind1 (isign _) ?_; rw [show ((1 : Int)).toNat = 1 from rfl, e1]; by_cases h : s.data.toList.take 1 ∈ sg
  ·rw [if_pos h]; exact Ev.pos (decide_eq_true h) (Ev.now _)
  ·rw [if_neg h]; refine Ev.neg (by rw [decide_eq_false h]; decide) (Ev.shift ?_); simp only [token_sign.l0]; rw [w64 (n := (1 : Int) - 1) (by omega) (by omega)]; exact Ev.neg (by decide) (Ev.now _)
 unfold token_sign.f sn; by_cases h2 : 2 ≤ s.size
 ·rw [show mn 2 (s.size : Int) = 2 by unfold mn; split <;> omega]; refine Ev.shift ?_; simp only [token_sign.l0]; refine Ev.pos (by decide) (Ev.pos (by decide) (Ev.pos (by omega) ?_)); refine Ev.bind1 (isign _) ?_; rw [show ((2 : Int)).toNat = 2 from rfl, e2]; by_cases h : s.data.toList.take 2 ∈ sg
  ·rw [if_pos ⟨by omega, h⟩]; exact Ev.pos (decide_eq_true h) (Ev.now _)
  ·rw [if_neg (fun x => h x.2)]; rw [w64 (n := (2 : Int) - 1) (by omega) (by omega)]; exact Ev.neg (by rw [decide_eq_false h]; decide) one
 ·rw [show mn 2 (s.size : Int) = 1 by unfold mn; split <;> omega, if_neg (fun x => by omega)]; exact one
theorem rsn (s : ByteArray) (i : Nat) (h0 : i < s.size) (hz : s.size ≤ 1000000000) : Ev (fun k => marginaliaref03_sign.f k s (i : Int)) (sn (s.data.toList.drop i) : Int) := by
 have hl := Ut.size_data s
 have hd : (s.data.toList.drop i).length = s.size - i := (by rw [List.length_drop, hl])
 have e2 : (s.extract i (i + 2)).data.toList = (s.data.toList.drop i).take 2 := (by rw [ext_list]; congr 1; omega)
 have e1 : (s.extract i (i + 1)).data.toList = (s.data.toList.drop i).take 1 := (by rw [ext_list]; congr 1; omega)
 obtain ⟨l1, hl1, hs1⟩ := has_signs (s.extract i (i + 1)); obtain ⟨l2, hl2, hs2⟩ := has_signs (s.extract i (i + 2)); rw [e1] at hs1; rw [e2] at hs2
 have one : ∀ b : Bool, Ev (fun k => marginaliaref03_sign.j0 k s (i : Int) b) ((if b = true then 2 else if (s.data.toList.drop i).take 1 ∈ sg then 1 else 0 : Nat) : Int) := by
  intro b; refine Ev.shift ?_; simp only [marginaliaref03_sign.j0]
  cases b with
  | true => exact Ev.pos rfl (Ev.now _)
  | false =>
   refine Ev.neg (by decide) (Ev.bind1 hl1 ?_); rw [w64 (n := (i : Int) + 1) (by omega) (by omega)]; refine Ev.pos (by omega) (Ev.pos (by omega) (Ev.pos (by omega) ?_)); rw [show ((i : Int)).toNat = i from rfl, show ((i : Int) + 1).toNat = i + 1 by omega]; refine Ev.bind hs1 ?_; rw [if_neg (show ¬ (false = true) by decide)]; by_cases h : (s.data.toList.drop i).take 1 ∈ sg
   ·rw [if_pos h]; exact Ev.pos (decide_eq_true h) (Ev.now _)
   ·rw [if_neg h]; exact Ev.neg (by rw [decide_eq_false h]; decide) (Ev.now _)
 unfold marginaliaref03_sign.f sn; rw [w64 (n := (i : Int) + 1) (by omega) (by omega), w64 (n := (i : Int) + 2) (by omega) (by omega)]; by_cases h2 : 2 ≤ s.size - i
 ·refine Ev.pos (by omega) (Ev.bind1 hl2 (Ev.pos (by omega) (Ev.pos (by omega) (Ev.pos (by omega) ?_)))); rw [show ((i : Int)).toNat = i from rfl, show ((i : Int) + 2).toNat = i + 2 by omega]; refine Ev.bind hs2 ?_; have := one (decide ((s.data.toList.drop i).take 2 ∈ sg)); simp only [decide_eq_true_eq] at this; by_cases h : (s.data.toList.drop i).take 2 ∈ sg
  ·rw [if_pos h] at this; rw [if_pos ⟨by omega, h⟩]; exact this
  ·rw [if_neg h] at this; rw [if_neg (fun x => h x.2)]; exact this
 ·refine Ev.neg (by omega) ?_; rw [if_neg (fun x => by omega)]; exact one false
/-! ### quotes -/
/-- The bytes up to the closing quote. -/
def qt : Bs → Option Nat
 | [] => none
 | c :: r => if c = 34 then some 1 else if c = 10 then none else if c = 92 then (match r with | [] => none | d :: r' => if d = 110 ∨ d = 34 ∨ d = 92 then (qt r').map (· + 2) else none) else (qt r).map (· + 1)
def qe (i : Nat) : Option Nat → Int
 | none => 0
 | some n => ((i + n : Nat) : Int)
theorem qe_map (i j : Nat) (x : Option Nat) : qe i (x.map (· + j)) = qe (i + j) x := by
 cases x with
 | none => rfl
 | some n => show ((i + (n + j) : Nat) : Int) = ((i + j + n : Nat) : Int); omega
theorem qt_pos : ∀ (m : Nat) (l : Bs), l.length ≤ m → ∀ n, qt l = some n → 0 < n ∧ n ≤ l.length := by
 intro m
 induction m with
 | zero =>
  intro l hl n h; obtain rfl : l = [] := List.eq_nil_of_length_eq_zero (by omega)
  simp [qt] at h
 | succ m ih =>
  intro l hl n h
  cases l with
  | nil => simp [qt] at h
  | cons c r =>
   rw [qt.eq_def] at h; simp only at h; simp only [List.length_cons] at hl ⊢
   split at h
   ·injection h with h; omega
   ·split at h
    ·cases h
    ·split at h
     ·cases r with
      | nil => cases h
      | cons d r' =>
       simp only at h
       split at h
       ·cases e : qt r' with
        | none => rw [e] at h; cases h
        | some x =>
         rw [e, Option.map_some] at h; injection h with h; have h : x + 2 = n := h; have := ih r' (by simp only [List.length_cons] at hl; omega) x e; simp only [List.length_cons]
         omega
       ·cases h
     ·cases e : qt r with
      | none => rw [e] at h; cases h
      | some x =>
       rw [e, Option.map_some] at h; injection h with h; have h : x + 1 = n := h; have := ih r (by omega) x e
       omega
theorem byte_int (c : UInt8) (n : Nat) (hn : n < 256) : ((c.toNat : Int) = (n : Int)) ↔ c = UInt8.ofNat n := by
 constructor
 ·intro h
  have h : c.toNat = n := (by exact_mod_cast h)
  rw [← h]
  simp
 ·intro h; rw [h, UInt8.toNat_ofNat_of_lt' hn]
theorem esc (c : UInt8) : Lib.indexByte [110, 34, 92] ((c.toNat : Int)).toNat.toUInt8 < 0 ↔ ¬ (c = 110 ∨ c = 34 ∨ c = 92) :=
 byte_all (P := fun c => Lib.indexByte [110, 34, 92] ((c.toNat : Int)).toNat.toUInt8 < 0 ↔ ¬ (c = 110 ∨ c = 34 ∨ c = 92)) (by decide +kernel) c
theorem iqt (s : ByteArray) (hz : s.size ≤ 1000000000) : ∀ (m : Nat) (l : Bs) (i : Nat), l.length ≤ m → s.data.toList.drop i = l → Ev (fun k => token_quoted.l0 k s (i : Int)) (qe i (qt l)) := by
 intro m
 induction m with
 | zero =>
  intro l i hl h; obtain rfl : l = [] := List.eq_nil_of_length_eq_zero (by omega); have := nil_drop h; refine Ev.shift ?_; simp only [token_quoted.l0, qt, qe]; exact Ev.neg (by omega) (Ev.now _)
 | succ m ih =>
  intro l i hl h
  cases l with
  | nil =>
   have := nil_drop h; refine Ev.shift ?_; simp only [token_quoted.l0, qt, qe]; exact Ev.neg (by omega) (Ev.now _)
  | cons c r =>
   obtain ⟨hlt, hb⟩ := bt_drop h; simp only [List.length_cons] at hl; refine Ev.shift ?_; simp only [token_quoted.l0]; rw [hb, w64 (n := (i : Int) + 1) (by omega) (by omega), w64 (n := (i : Int) + 1 + 1) (by omega) (by omega)]; refine Ev.pos (by omega) (Ev.pos (by omega) ?_); rw [qt.eq_def]; simp only; by_cases h1 : c = 34
   ·rw [if_pos h1]; exact Ev.pos ((byte_int c 34 (by decide)).2 h1) (Ev.now _)
   ·rw [if_neg h1]; refine Ev.neg (fun x => h1 ((byte_int c 34 (by decide)).1 x)) ?_; by_cases h2 : c = 10
    ·rw [if_pos h2]; exact Ev.pos ((byte_int c 10 (by decide)).2 h2) (Ev.now _)
    ·rw [if_neg h2]; refine Ev.neg (fun x => h2 ((byte_int c 10 (by decide)).1 x)) ?_; by_cases h3 : c = 92
     ·rw [if_pos h3]; refine Ev.pos ((byte_int c 92 (by decide)).2 h3) ?_; have hr := drop_next h
      cases r with
      | nil =>
       have := nil_drop hr; exact Ev.pos (by omega) (Ev.now _)
      | cons d r' =>
       obtain ⟨hlt', hb'⟩ := bt_drop hr; have hb' : bt s ((i : Int) + 1) = (d.toNat : Int) := hb'; rw [hb']; refine Ev.neg (by omega) (Ev.pos (by omega) (Ev.pos (by omega) ?_)); refine Ev.bind1 rfl ?_; simp only; by_cases h4 : d = 110 ∨ d = 34 ∨ d = 92
       ·rw [if_pos h4, qe_map]; refine Ev.neg (fun x => (esc d).1 x h4) ?_; have := ih r' (i + 2) (by simp at hl; omega) (drop_next hr); rw [show (i : Int) + 1 + 1 = ((i + 2 : Nat) : Int) by omega]; exact this
       ·rw [if_neg h4]; exact Ev.pos ((esc d).2 h4) (Ev.now _)
     ·rw [if_neg h3, qe_map]; refine Ev.neg (fun x => h3 ((byte_int c 92 (by decide)).1 x)) ?_
      exact_mod_cast ih r (i + 1) (by omega) (drop_next h)
theorem rqt (s : ByteArray) (hz : s.size ≤ 1000000000) : ∀ (m : Nat) (l : Bs) (i : Nat), l.length ≤ m → s.data.toList.drop i = l → Ev (fun k => marginaliaref03_quoted.l0 k s (i : Int)) (qe i (qt l)) := by
 intro m
 induction m with
 | zero =>
  intro l i hl h; obtain rfl : l = [] := List.eq_nil_of_length_eq_zero (by omega); have := nil_drop h; refine Ev.shift ?_; simp only [marginaliaref03_quoted.l0, qt, qe]; exact Ev.neg (by omega) (Ev.now _)
 | succ m ih =>
  intro l i hl h
  cases l with
  | nil =>
   have := nil_drop h; refine Ev.shift ?_; simp only [marginaliaref03_quoted.l0, qt, qe]; exact Ev.neg (by omega) (Ev.now _)
  | cons c r =>
   obtain ⟨hlt, hb⟩ := bt_drop h; simp only [List.length_cons] at hl; refine Ev.shift ?_; simp only [marginaliaref03_quoted.l0]; rw [hb, w64 (n := (i : Int) + 1) (by omega) (by omega), w64 (n := (i : Int) + 1 + 1) (by omega) (by omega)]; refine Ev.pos (by omega) (Ev.pos (by omega) ?_); rw [qt.eq_def]; simp only; by_cases h1 : c = 34
   ·rw [if_pos h1]; exact Ev.pos ((byte_int c 34 (by decide)).2 h1) (Ev.now _)
   ·rw [if_neg h1]; refine Ev.neg (fun x => h1 ((byte_int c 34 (by decide)).1 x)) ?_; by_cases h2 : c = 10
    ·rw [if_pos h2]; exact Ev.pos ((byte_int c 10 (by decide)).2 h2) (Ev.now _)
    ·rw [if_neg h2]; refine Ev.neg (fun x => h2 ((byte_int c 10 (by decide)).1 x)) ?_; by_cases h3 : c = 92
     ·rw [if_pos h3]; refine Ev.pos ((byte_int c 92 (by decide)).2 h3) ?_; have hr := drop_next h
      cases r with
      | nil =>
       have := nil_drop hr; exact Ev.pos (by omega) (Ev.now _)
      | cons d r' =>
       obtain ⟨hlt', hb'⟩ := bt_drop hr; have hb' : bt s ((i : Int) + 1) = (d.toNat : Int) := hb'; rw [hb']; refine Ev.neg (by omega) (Ev.pos (by omega) (Ev.pos (by omega) ?_)); simp only; have hn := ih r' (i + 2) (by simp at hl; omega) (drop_next hr); rw [show ((i + 2 : Nat) : Int) = (i : Int) + 1 + 1 by omega] at hn; by_cases h4 : d = 110
       ·rw [if_pos (.inl h4), qe_map]; exact Ev.pos ((byte_int d 110 (by decide)).2 h4) hn
       ·refine Ev.neg (fun x => h4 ((byte_int d 110 (by decide)).1 x)) ?_; by_cases h5 : d = 34
        ·rw [if_pos (.inr (.inl h5)), qe_map]; exact Ev.pos ((byte_int d 34 (by decide)).2 h5) hn
        ·refine Ev.neg (fun x => h5 ((byte_int d 34 (by decide)).1 x)) ?_; by_cases h6 : d = 92
         ·rw [if_pos (.inr (.inr h6)), qe_map]; exact Ev.pos ((byte_int d 92 (by decide)).2 h6) hn
         ·rw [if_neg (fun x => x.elim h4 (fun x => x.elim h5 h6))]; exact Ev.neg (fun x => h6 ((byte_int d 92 (by decide)).1 x)) (Ev.now _)
     ·rw [if_neg h3, qe_map]; refine Ev.neg (fun x => h3 ((byte_int c 92 (by decide)).1 x)) ?_
      exact_mod_cast ih r (i + 1) (by omega) (drop_next h)
end Go.Proofs.Ytahcpappailjgaa.P

set_option linter.unusedVariables false
set_option linter.unusedSimpArgs false
namespace Go.Proofs.Ytahcpappailjgaa.P
open Go.RowKit Go.Proofs.YtahcpappailjgaaW.PrintWords Go.Proofs.YtahcpappailjgaaW.PrintLast Go.Proofs.YtahcpappailjgaaW.PrintMore
def qn : Option Nat → Nat
 | none => 0
 | some n => n + 1
theorem qe_qn (x : Option Nat) : qe 1 x = (qn x : Int) := by
 cases x with
 | none => rfl
 | some n => show ((1 + n : Nat) : Int) = ((n + 1 : Nat) : Int); omega
theorem qn_le (r : Bs) : qn (qt r) ≤ r.length + 1 := by
 cases e : qt r with
 | none => exact Nat.zero_le _
 | some n => have := qt_pos r.length r (Nat.le_refl _) n e; show n + 1 ≤ _; omega
/-- The token at the beginning that is not bad: its kind and its bytes; no bytes: there is none. -/
def gd : Bs → Int × Nat
 | [] => (0, 0)
 | c :: r =>
  if bk c = true then (1, rn bk (c :: r)) else
  if (c :: r).take 2 = [47, 47] then (2, rn nl (c :: r)) else
  if lt c = true then (if (c :: r).take (rn ld (c :: r)) ∈ ws then 4 else 3, rn ld (c :: r)) else
  if dg c = true then (5, rn dg (c :: r)) else
  if c = 34 then (6, qn (qt r)) else (7, sn (c :: r))
theorem gd_cons (c : UInt8) (r : Bs) : gd (c :: r) =
  if bk c = true then (1, rn bk (c :: r)) else
  if (c :: r).take 2 = [47, 47] then (2, rn nl (c :: r)) else
  if lt c = true then (if (c :: r).take (rn ld (c :: r)) ∈ ws then 4 else 3, rn ld (c :: r)) else
  if dg c = true then (5, rn dg (c :: r)) else
  if c = 34 then (6, qn (qt r)) else (7, sn (c :: r)) := rfl
theorem sn_le (c : UInt8) (r : Bs) : sn (c :: r) ≤ (c :: r).length := by
 unfold sn
 split
 ·rename_i h; exact h.1
 ·split <;> simp
theorem gd_le (l : Bs) : (gd l).2 ≤ l.length := by
 cases l with
 | nil => exact Nat.le_refl _
 | cons c r =>
  rw [gd_cons]
  (repeat' split) <;> first | exact rn_le _ _ | exact qn_le r | exact sn_le c r
theorem isize (s : ByteArray) : s.data.toList.length = s.size := Ut.size_data s
theorem fin_eq (s : ByteArray) (kind : Int) (n : Nat) (h : n ≤ s.size) : token_good.fin s kind (n : Int) = some (kind, s.extract 0 n, decide (0 < n)) := by
 unfold token_good.fin; rw [if_pos (by omega), if_pos (by omega), Int.toNat_natCast]
 congr 3
 exact decide_eq_decide.2 (by omega)
theorem remark_eq (s : ByteArray) : strings_HasPrefix.f s ⟨#[47, 47]⟩ = some (decide (s.data.toList.take 2 = [47, 47])) := by
 have e2 : (s.extract 0 2).data.toList = s.data.toList.take 2 := ext_list s 0 2; have hl := isize s; unfold strings_HasPrefix.f stringslite_HasPrefix.f; have h2 : (((⟨#[47, 47]⟩ : ByteArray).size : Nat) : Int) = 2 := rfl; rw [h2]; by_cases h : (s.size : Int) ≥ 2
 ·rw [if_pos h, if_pos (by decide), if_pos (by omega)]
  show some _ = _
  rw [show ((2 : Int)).toNat = 2 from rfl, Lib.toList_data, e2, Lib.toList_data]
  congr 1
  exact Bool.eq_iff_iff.2 (by rw [beq_iff_eq, decide_eq_true_eq])
 ·rw [if_neg h]
  show some false = _
  congr 1
  symm
  apply decide_eq_false
  intro e; have := congrArg List.length e; rw [List.length_take] at this; simp only [List.length_cons, List.length_nil] at this
  omega
theorem good_ev (s : ByteArray) (c : UInt8) (r : Bs) (hs : s.data.toList = c :: r) (hz : s.size ≤ 1000000000) : Ev (fun k => token_good.f k s) ((gd (c :: r)).1, s.extract 0 (gd (c :: r)).2, decide (0 < (gd (c :: r)).2)) := by
 have hb : 0 < s.size ∧ bt s 0 = (c.toNat : Int) := bt_drop (i := 0) hs; have hl := isize s; have hg := gd_le (c :: r); rw [← hs, hl, hs] at hg; unfold token_good.f; refine Ev.pos (by omega) (Ev.pos hb.1 ?_); rw [hb.2]; refine Ev.bind1 (iblank c) ?_; unfold gd at hg ⊢; by_cases h1 : bk c = true
 ·simp only [if_pos h1] at hg ⊢; rw [irun iblank, hs]; exact Ev.congr (fun _ => fin_eq s 1 _ hg) (Ev.now _)
 ·simp only [if_neg h1] at hg ⊢; refine Ev.bind1 (remark_eq s) ?_; rw [hs]; by_cases h2 : (c :: r).take 2 = [47, 47]
  ·simp only [if_pos h2] at hg ⊢; refine Ev.pos (decide_eq_true h2) (Ev.bind1 (iline s) ?_); rw [hs]; exact Ev.congr (fun _ => fin_eq s 2 _ hg) (Ev.now _)
  ·simp only [if_neg h2] at hg ⊢; refine Ev.neg (by rw [decide_eq_false h2]; decide) (Ev.bind1 (iletter c) ?_); by_cases h3 : lt c = true
   ·simp only [if_pos h3] at hg ⊢; rw [irun iletdig]; refine Ev.pos hg (Ev.bind1 (iword _) ?_); rw [show (s.extract 0 (rn ld (c :: r))).data.toList = (c :: r).take (rn ld (c :: r)) by rw [← hs]; exact ext_list s 0 _]; by_cases h4 : (c :: r).take (rn ld (c :: r)) ∈ ws
    ·simp only [if_pos h4, decide_eq_true h4, if_true]; exact Ev.congr (fun _ => fin_eq s 4 _ hg) (Ev.now _)
    ·simp only [if_neg h4, decide_eq_false h4]; exact Ev.congr (fun _ => fin_eq s 3 _ hg) (Ev.now _)
   ·simp only [if_neg h3] at hg ⊢; refine Ev.bind1 (idigit c) ?_; by_cases h4 : dg c = true
    ·simp only [if_pos h4] at hg ⊢; rw [irun idigit]; exact Ev.congr (fun _ => fin_eq s 5 _ hg) (Ev.now _)
    ·simp only [if_neg h4] at hg ⊢; by_cases h5 : c = 34
     ·simp only [if_pos h5] at hg ⊢; refine Ev.pos ((byte_int c 34 (by decide)).2 h5) ?_
      have hq : Ev (fun k => token_quoted.f k s) (qn (qt r) : Int) := by
       rw [← qe_qn]
       have hd : s.data.toList.drop 1 = r := (by rw [hs]; rfl)
       exact iqt s hz r.length r 1 (Nat.le_refl _) hd
      exact Ev.bind hq (Ev.congr (fun _ => fin_eq s 6 _ hg) (Ev.now _))
     ·simp only [if_neg h5] at hg ⊢; refine Ev.neg (fun x => h5 ((byte_int c 34 (by decide)).1 x)) ?_; have hq := isn s hb.1 hz; rw [hs] at hq; exact Ev.bind hq (Ev.congr (fun _ => fin_eq s 7 _ hg) (Ev.now _))
/-- How many bytes a bad token goes on. -/
def sk : Bs → Nat
 | [] => 0
 | c :: r => if c = 34 ∨ 0 < (gd (c :: r)).2 then 0 else sk r + 1
theorem sk_le : ∀ l : Bs, sk l ≤ l.length
 | [] => Nat.le_refl _
 | c :: r => by
  rw [sk]
  split
  ·omega
  ·have := sk_le r; simp only [List.length_cons]; omega
/-- The token at the beginning. -/
def nx : Bs → Int × Nat
 | [] => (0, 0)
 | c :: r => if 0 < (gd (c :: r)).2 then gd (c :: r) else if c = 34 then (8, rn nl (c :: r)) else (8, sk r + 1)
theorem nx_cons (c : UInt8) (r : Bs) : nx (c :: r) = if 0 < (gd (c :: r)).2 then gd (c :: r) else if c = 34 then (8, rn nl (c :: r)) else (8, sk r + 1) := rfl
theorem nx_pos (c : UInt8) (r : Bs) : 0 < (nx (c :: r)).2 ∧ (nx (c :: r)).2 ≤ (c :: r).length := by
 rw [nx_cons]
 split
 ·rename_i h; exact ⟨h, gd_le _⟩
 ·split
  ·rename_i h
   refine ⟨?_, rn_le _ _⟩; rw [rn, if_pos (by rw [h]; decide)]
   omega
  ·have := sk_le r; exact ⟨Nat.succ_pos _, by simp only [List.length_cons]; omega⟩
theorem ext_suf (s : ByteArray) (i : Nat) : (s.extract i s.size).data.toList = s.data.toList.drop i := by
 rw [ext_list, List.take_of_length_le]; rw [List.length_drop, isize]; exact Nat.le_refl _
theorem next_loop (s : ByteArray) (hz : s.size ≤ 1000000000) : ∀ (r : Bs) (i : Nat), s.data.toList.drop i = r → i ≤ s.size → Ev (fun k => token_next.l0 k s (i : Int)) (8, s.extract 0 (i + sk r)) := by
 intro r
 induction r with
 | nil =>
  intro i h hi; have := nil_drop h; refine Ev.shift ?_; simp only [token_next.l0]; refine Ev.neg (by omega) (Ev.shift ?_); simp only [token_next.j1, sk]; refine Ev.neg (by decide) (Ev.pos (by omega) (Ev.pos (by omega) ?_)); exact Ev.now _
 | cons c r ih =>
  intro i h hi; obtain ⟨hlt, hb⟩ := bt_drop h; refine Ev.shift ?_; simp only [token_next.l0]; refine Ev.pos (by omega) (Ev.pos (by omega) (Ev.shift ?_)); simp only [token_next.j1]; rw [hb, sk]; by_cases h1 : c = 34
  ·subst h1; have e1 : (if (34 : UInt8) = 34 ∨ 0 < (gd (34 :: r)).2 then 0 else sk r + 1) = 0 := if_pos (.inl rfl); rw [e1]; refine Ev.neg (by decide) (Ev.pos (by omega) (Ev.pos (by omega) ?_)); exact Ev.now _
  ·refine Ev.pos (by rw [bne_iff_ne]; exact fun x => h1 ((byte_int c 34 (by decide)).1 x)) (Ev.pos (by omega) (Ev.pos (by omega) ?_))
   have hs : (s.extract i s.size).data.toList = c :: r := (by rw [ext_suf, h])
   have hsz : (s.extract i s.size).size ≤ 1000000000 := (by rw [ByteArray.size_extract]; omega)
   refine Ev.bind (good_ev _ c r hs hsz) ?_; simp only; by_cases h2 : 0 < (gd (c :: r)).2
   ·rw [if_pos (.inr h2)]; refine Ev.pos (decide_eq_true h2) ?_; exact Ev.now _
   ·rw [if_neg (fun x => x.elim h1 h2), w64 (n := (i : Int) + 1) (by omega) (by omega)]; refine Ev.neg (by rw [decide_eq_false h2]; decide) ?_; have := ih (i + 1) (drop_next h) (by omega); rw [show i + 1 + sk r = i + (sk r + 1) by omega] at this
    exact_mod_cast this
theorem next_ev (s : ByteArray) (c : UInt8) (r : Bs) (hs : s.data.toList = c :: r) (hz : s.size ≤ 1000000000) : Ev (fun k => token_next.f k s) ((nx (c :: r)).1, s.extract 0 (nx (c :: r)).2) := by
 have hb : 0 < s.size ∧ bt s 0 = (c.toNat : Int) := bt_drop (i := 0) hs; have hl := isize s; unfold token_next.f; refine Ev.bind (good_ev s c r hs hz) ?_; simp only; rw [nx_cons]; by_cases h : 0 < (gd (c :: r)).2
 ·rw [if_pos h]; exact Ev.pos (decide_eq_true h) (Ev.now _)
 ·rw [if_neg h, hb.2]; refine Ev.neg (by rw [decide_eq_false h]; decide) (Ev.pos (by omega) ?_); by_cases h5 : c = 34
  ·rw [if_pos h5]; refine Ev.pos ((byte_int c 34 (by decide)).2 h5) (Ev.bind1 (iline s) ?_); have := rn_le nl s.data.toList; rw [hl] at this; rw [← hs]; refine Ev.pos (by omega) (Ev.pos (by omega) ?_); exact Ev.now _
  ·rw [if_neg h5]; refine Ev.neg (fun x => h5 ((byte_int c 34 (by decide)).1 x)) ?_; have := next_loop s hz r 1 (by rw [hs]; rfl) hb.1; rw [Nat.add_comm] at this; exact this
/-- The tokens of a string. -/
def lx : Nat → ByteArray → List S59
 | 0, _ => []
 | m + 1, s => if s.size = 0 then [] else ⟨(nx s.data.toList).1, s.extract 0 (nx s.data.toList).2⟩ :: lx m (s.extract (nx s.data.toList).2 s.size)
theorem lex_ev : ∀ (m : Nat) (s : ByteArray) (acc : List S59), s.size ≤ m → s.size ≤ 1000000000 → acc.length + s.size ≤ 1000000000 → Ev (fun k => token_Lex.l0 k s acc) (acc ++ lx m s, 0) := by
 intro m
 induction m with
 | zero =>
  intro s acc h hz ha; have h0 : s.data.toList = [] := List.eq_nil_of_length_eq_zero (by rw [isize]; omega); refine Ev.shift ?_; simp only [token_Lex.l0]; refine Ev.pos (by rw [Lib.toList_data]; exact h0) ?_; rw [lx, List.append_nil]; exact Ev.now _
 | succ m ih =>
  intro s acc h hz ha; refine Ev.shift ?_; simp only [token_Lex.l0]; by_cases h0 : s.size = 0
  ·have h0' : s.data.toList = [] := List.eq_nil_of_length_eq_zero (by rw [isize]; omega); refine Ev.pos (by rw [Lib.toList_data]; exact h0') ?_; rw [lx, if_pos h0, List.append_nil]; exact Ev.now _
  ·obtain ⟨c, r, hs⟩ := drop_cons_of_lt (s := s) (i := 0) (by omega); have hs : s.data.toList = c :: r := hs; refine Ev.neg (by rw [Lib.toList_data, hs]; exact fun e => by cases e) (Ev.bind (next_ev s c r hs hz) ?_); obtain ⟨n1, n2⟩ := nx_pos c r; rw [← hs] at n1 n2 ⊢; rw [isize] at n2; rw [lx, if_neg h0]
   have hx : (s.extract 0 (nx s.data.toList).2).size = (nx s.data.toList).2 := (by rw [ByteArray.size_extract]; omega)
   have hy : (s.extract (nx s.data.toList).2 s.size).size = s.size - (nx s.data.toList).2 := (by rw [ByteArray.size_extract]; omega)
   simp only [hx]; refine Ev.pos (by omega) (Ev.pos (by omega) (Ev.pos (by omega) ?_)); rw [Int.toNat_natCast]; have := ih (s.extract (nx s.data.toList).2 s.size) (acc ++ [⟨(nx s.data.toList).1, s.extract 0 (nx s.data.toList).2⟩]) (by omega) (by omega) (by rw [List.length_append]; simp only [List.length_cons, List.length_nil]; omega); rw [List.append_assoc] at this; exact this
end Go.Proofs.Ytahcpappailjgaa.P

set_option linter.unusedVariables false
set_option linter.unusedSimpArgs false
namespace Go.Proofs.Ytahcpappailjgaa.P
/-! ### a line feed parts tokens -/
theorem rn_nl10 (p : UInt8 → Bool) (hp : p 10 = false) : ∀ (a b : Bs), rn p (a ++ 10 :: b) = rn p a
 | [], b => by simp [rn, hp]
 | c :: a, b => by
  rw [List.cons_append, rn, rn, rn_nl10 p hp a b]
theorem rn_all (p : UInt8 → Bool) : ∀ (a b : Bs), (∀ c ∈ a, p c = true) → rn p (a ++ b) = a.length + rn p b
 | [], b, _ => by simp
 | c :: a, b, h => by
  rw [List.cons_append, rn, if_pos (h c List.mem_cons_self), rn_all p a b (fun x hx => h x (List.mem_cons_of_mem _ hx)), List.length_cons]
  omega
theorem rn_lt (p : UInt8 → Bool) : ∀ (a b : Bs), ¬ (∀ c ∈ a, p c = true) → rn p (a ++ b) = rn p a ∧ rn p a < a.length
 | [], b, h => absurd (fun c hc => by cases hc) h
 | c :: a, b, h => by
  rw [List.cons_append, rn, rn]; by_cases hc : p c = true
  ·have h' : ¬ (∀ c ∈ a, p c = true) := fun x => h (fun y hy => by
    rcases List.mem_cons.1 hy with rfl | hy
    ·exact hc
    ·exact x y hy)
   have := rn_lt p a b h'; rw [if_pos hc, if_pos hc, this.1, List.length_cons]; exact ⟨rfl, by omega⟩
  ·rw [if_neg hc, if_neg hc, List.length_cons]; exact ⟨rfl, by omega⟩
theorem qt_nl : ∀ (m : Nat) (a b : Bs), a.length ≤ m → qt (a ++ 10 :: b) = qt (a ++ [10]) ∧ ∀ n, qt (a ++ [10]) = some n → n ≤ a.length := by
 intro m
 induction m with
 | zero =>
  intro a b h; obtain rfl : a = [] := List.eq_nil_of_length_eq_zero (by omega); exact ⟨by rw [List.nil_append, List.nil_append, qt.eq_def, qt.eq_def]; rfl, by rw [List.nil_append, qt.eq_def]; intro n hn; cases hn⟩
 | succ m ih =>
  intro a b h
  cases a with
  | nil => exact ⟨by rw [List.nil_append, List.nil_append, qt.eq_def, qt.eq_def]; rfl, by rw [List.nil_append, qt.eq_def]; intro n hn; cases hn⟩
  | cons c a =>
   simp only [List.length_cons] at h; obtain ⟨i1, i2⟩ := ih a b (by omega); rw [List.cons_append, List.cons_append, qt.eq_def, qt.eq_def (c :: (a ++ [10]))]; simp only; by_cases h1 : c = 34
   ·simp [h1]
   ·by_cases h2 : c = 10
    ·simp [h2]
    ·by_cases h3 : c = 92
     ·simp only [if_neg h1, if_neg h2, if_pos h3]
      cases a with
      | nil => simp
      | cons d a =>
       simp only [List.length_cons] at h; obtain ⟨i1, i2⟩ := ih a b (by omega); simp only [List.cons_append, i1]; refine ⟨trivial, ?_⟩; intro n hn
       split at hn
       ·obtain ⟨x, hx, rfl⟩ := Option.map_eq_some_iff.1 hn; have := i2 x hx; simp only [List.length_cons]
        omega
       ·cases hn
     ·simp only [if_neg h1, if_neg h2, if_neg h3, i1]; refine ⟨trivial, ?_⟩; intro n hn; obtain ⟨x, hx, rfl⟩ := Option.map_eq_some_iff.1 hn; have := i2 x hx; simp only [List.length_cons]
      omega
theorem sg_no10 : ∀ x ∈ sg, (10 : UInt8) ∉ x := by decide
theorem take2_nl (c : UInt8) (a b : Bs) : (c :: a ++ 10 :: b).take 2 = (c :: a ++ [10]).take 2 := by
 cases a <;> rfl
theorem take1_nl (c : UInt8) (a b : Bs) : (c :: a ++ 10 :: b).take 1 = (c :: a ++ [10]).take 1 := rfl
theorem sn_nl (c : UInt8) (a b : Bs) : sn (c :: a ++ 10 :: b) = sn (c :: a ++ [10]) ∧ sn (c :: a ++ [10]) ≤ (c :: a).length := by
 unfold sn; rw [take2_nl, take1_nl]
 have l1 : 2 ≤ (c :: a ++ 10 :: b).length := (by simp; omega)
 have l2 : 2 ≤ (c :: a ++ [10]).length := (by simp)
 refine ⟨by simp only [l1, l2, true_and], ?_⟩
 split
 ·rename_i h
  cases a with
  | nil => exact absurd (by simp) (sg_no10 _ h.2)
  | cons d a => simp
 ·split <;> simp
/-- The good token at the beginning, ahead of a line feed: it is the same whatever stands behind, or it is a blank that holds the line feed. -/
theorem gd_nl (c : UInt8) (a b : Bs) : (gd (c :: a ++ 10 :: b) = gd (c :: a ++ [10]) ∧ (gd (c :: a ++ [10])).2 ≤ (c :: a).length) ∨ (∀ x ∈ c :: a, bk x = true) := by
 by_cases hb : ∀ x ∈ c :: a, bk x = true
 ·exact .inr hb
 ·refine .inl ?_; rw [List.cons_append, List.cons_append, gd_cons, gd_cons]; have e2 : ∀ b, (c :: (a ++ 10 :: b)).take 2 = (c :: a ++ [10]).take 2 := take2_nl c a; rw [e2, e2]
  have hn := fun b => rn_nl10 nl (by decide) (c :: a) b
  have hl := fun b => rn_nl10 ld (by decide) (c :: a) b
  have hd := fun b => rn_nl10 dg (by decide) (c :: a) b
  have hk := fun b => rn_lt bk (c :: a) (10 :: b) hb
  simp only [List.cons_append] at hn hl hd hk; rw [(hk b).1, (hk []).1, hn b, hn [], hl b, hl [], hd b, hd []]; by_cases h1 : bk c = true
  ·simp only [if_pos h1]; exact ⟨trivial, by have := (hk b).2; omega⟩
  ·simp only [if_neg h1]; by_cases h2 : (c :: a ++ [10]).take 2 = [47, 47]
   ·simp only [if_pos h2]; exact ⟨trivial, rn_le _ _⟩
   ·simp only [if_neg h2]; by_cases h3 : lt c = true
    ·simp only [if_pos h3]
     have ht : ∀ b, (c :: (a ++ 10 :: b)).take (rn ld (c :: a)) = (c :: a).take (rn ld (c :: a)) := fun b => by
      rw [show c :: (a ++ 10 :: b) = (c :: a) ++ 10 :: b from rfl, List.take_append_of_le_length (rn_le _ _)]
     rw [ht b, ht []]; exact ⟨rfl, rn_le _ _⟩
    ·simp only [if_neg h3]; by_cases h4 : dg c = true
     ·simp only [if_pos h4]; exact ⟨trivial, rn_le _ _⟩
     ·simp only [if_neg h4]; by_cases h5 : c = 34
      ·simp only [if_pos h5]; obtain ⟨q1, q2⟩ := qt_nl a.length a b (Nat.le_refl _); rw [q1]; refine ⟨rfl, ?_⟩
       cases e : qt (a ++ [10]) with
       | none => exact Nat.zero_le _
       | some n => have := q2 n e; simp only [qn, List.length_cons]; omega
      ·simp only [if_neg h5]; have := sn_nl c a b; simp only [List.cons_append] at this; rw [this.1]; exact ⟨rfl, this.2⟩
theorem gd_bk (c : UInt8) (r : Bs) (h : bk c = true) : gd (c :: r) = (1, rn bk r + 1) := by
 rw [gd_cons, if_pos h, rn, if_pos h]
theorem sk_nl : ∀ (a b : Bs), sk (a ++ 10 :: b) = sk (a ++ [10]) ∧ sk (a ++ [10]) ≤ a.length
 | [], b => by
  have h : ∀ r, sk (10 :: r) = 0 := fun r => by
   rw [sk, gd_bk 10 r (by decide), if_pos (.inr (Nat.succ_pos _))]
  exact ⟨by rw [List.nil_append, List.nil_append, h, h], by rw [List.nil_append, h]; exact Nat.le_refl _⟩
 | c :: a, b => by
  obtain ⟨i1, i2⟩ := sk_nl a b; rw [List.cons_append, List.cons_append, sk, sk, i1]
  have hg : (0 < (gd (c :: (a ++ 10 :: b))).2) ↔ (0 < (gd (c :: (a ++ [10]))).2) := by
   rcases gd_nl c a b with h | h
   ·have h1 : gd (c :: (a ++ 10 :: b)) = gd (c :: (a ++ [10])) := h.1; rw [h1]
   ·have hc := h c List.mem_cons_self; rw [gd_bk c _ hc, gd_bk c _ hc]; exact ⟨fun _ => Nat.succ_pos _, fun _ => Nat.succ_pos _⟩
  by_cases h : c = 34 ∨ 0 < (gd (c :: (a ++ [10]))).2
  ·rw [if_pos h, if_pos (h.imp id hg.2)]; exact ⟨rfl, Nat.zero_le _⟩
  ·rw [if_neg h, if_neg (fun x => h (x.imp id hg.1)), List.length_cons]; exact ⟨rfl, by omega⟩
/-- The token at the beginning, ahead of a line feed. -/
theorem nx_nl (c : UInt8) (a b : Bs) : (nx (c :: a ++ 10 :: b) = nx (c :: a ++ [10]) ∧ (nx (c :: a ++ [10])).2 ≤ (c :: a).length) ∨ (∀ x ∈ c :: a, bk x = true) := by
 rcases gd_nl c a b with ⟨h1, h2⟩ | h
 ·refine .inl ?_; rw [List.cons_append, List.cons_append] at *; rw [nx_cons, nx_cons, h1]
  split
  ·exact ⟨rfl, h2⟩
  ·split
   ·have hn := fun b => rn_nl10 nl (by decide) (c :: a) b
    simp only [List.cons_append] at hn; rw [hn b, hn []]; exact ⟨rfl, rn_le _ _⟩
   ·obtain ⟨i1, i2⟩ := sk_nl a b; rw [i1]; exact ⟨rfl, by simp only [List.length_cons]; omega⟩
 ·exact .inr h
theorem nx_bk (c : UInt8) (r : Bs) (h : bk c = true) : nx (c :: r) = (1, rn bk r + 1) := by
 rw [nx_cons, gd_bk c r h, if_pos (Nat.succ_pos _)]
/-- A blank that holds the line feed. -/
theorem nx_blank (a b : Bs) (h : ∀ x ∈ a, bk x = true) : nx (a ++ 10 :: b) = (1, a.length + 1 + rn bk b) := by
 cases a with
 | nil => rw [List.nil_append, nx_bk 10 b (by decide), List.length_nil]; congr 1; omega
 | cons c a =>
  rw [List.cons_append, nx_bk c _ (h c List.mem_cons_self), rn_all bk a _ (fun x hx => h x (List.mem_cons_of_mem _ hx)), rn, if_pos (by decide), List.length_cons]
  congr 1
  omega
/-! ### all tokens -/
abbrev Tk := Int × Bs
def lxb : Nat → Bs → List Tk
 | 0, _ => []
 | m + 1, [] => []
 | m + 1, c :: r => ((nx (c :: r)).1, (c :: r).take (nx (c :: r)).2) :: lxb m ((c :: r).drop (nx (c :: r)).2)
theorem lxb_nil (m : Nat) : lxb m [] = [] := by cases m <;> rfl
theorem lxb_more : ∀ (m : Nat) (l : Bs), l.length ≤ m → ∀ k, lxb (m + k) l = lxb m l := by
 intro m
 induction m with
 | zero =>
  intro l h k; obtain rfl : l = [] := List.eq_nil_of_length_eq_zero (by omega); rw [lxb_nil, lxb_nil]
 | succ m ih =>
  intro l h k
  cases l with
  | nil => rw [lxb_nil, lxb_nil]
  | cons c r =>
   rw [show m + 1 + k = (m + k) + 1 by omega, lxb, lxb, ih _ (by have := nx_pos c r; rw [List.length_drop]; simp only [List.length_cons] at *; omega)]
/-- The tokens of a string. -/
def lex (l : Bs) : List Tk := lxb l.length l
theorem lxb_lex (m : Nat) (l : Bs) (h : l.length ≤ m) : lxb m l = lex l := by
 rw [show m = l.length + (m - l.length) by omega, lxb_more _ _ (Nat.le_refl _)]; rfl
theorem lex_nil : lex [] = [] := rfl
theorem lex_cons (c : UInt8) (r : Bs) : lex (c :: r) = ((nx (c :: r)).1, (c :: r).take (nx (c :: r)).2) :: lex ((c :: r).drop (nx (c :: r)).2) := by
 show lxb (r.length + 1) (c :: r) = _
 rw [lxb, lxb_lex]; have := nx_pos c r; rw [List.length_drop]; simp only [List.length_cons] at *
 omega
theorem lex_of_ne (l : Bs) (h : l ≠ []) : lex l = ((nx l).1, l.take (nx l).2) :: lex (l.drop (nx l).2) := by
 cases l with
 | nil => exact absurd rfl h
 | cons c r => exact lex_cons c r
def cat (l : List Tk) : Bs := (l.map (·.2)).flatten
theorem cat_cons (t : Tk) (l : List Tk) : cat (t :: l) = t.2 ++ cat l := rfl
theorem cat_lex : ∀ (m : Nat) (l : Bs), l.length ≤ m → cat (lex l) = l := by
 intro m
 induction m with
 | zero =>
  intro l h; obtain rfl : l = [] := List.eq_nil_of_length_eq_zero (by omega); rfl
 | succ m ih =>
  intro l h
  cases l with
  | nil => rfl
  | cons c r =>
   rw [lex_cons, cat_cons, ih _ (by have := nx_pos c r; rw [List.length_drop]; simp only [List.length_cons] at *; omega), List.take_append_drop]
theorem lex_pos (l : Bs) : ∀ t ∈ lex l, t.2 ≠ [] := by
 have : ∀ (m : Nat) (l : Bs), l.length ≤ m → ∀ t ∈ lex l, t.2 ≠ [] := by
  intro m
  induction m with
  | zero =>
   intro l h t ht; obtain rfl : l = [] := List.eq_nil_of_length_eq_zero (by omega)
   cases ht
  | succ m ih =>
   intro l h t ht
   cases l with
   | nil => cases ht
   | cons c r =>
    have h0 := nx_pos c r; rw [lex_cons] at ht
    rcases List.mem_cons.1 ht with rfl | ht
    ·intro e; have e : (c :: r).take (nx (c :: r)).2 = [] := e; have := congrArg List.length e; rw [List.length_take] at this; simp only [List.length_cons, List.length_nil] at *
     omega
    ·exact ih _ (by rw [List.length_drop]; simp only [List.length_cons] at *; omega) t ht
 exact this l.length l (Nat.le_refl _)
theorem take_app {α : Type} {n : Nat} {a : List α} (b : List α) (h : n ≤ a.length) : (a ++ b).take n = a.take n := List.take_append_of_le_length h
theorem drop_app {α : Type} {n : Nat} {a : List α} (b : List α) (h : n ≤ a.length) : (a ++ b).drop n = a.drop n ++ b := List.drop_append_of_le_length h
/-- Behind a line feed's blank: the tokens are those of the two parts. -/
theorem lex_behind : ∀ (m : Nat) (a s y : Bs), a.length ≤ m → (∀ x ∈ s, bk x = true) → (∀ c r, y = c :: r → bk c = false) → lex (a ++ 10 :: (s ++ y)) = lex (a ++ 10 :: s) ++ lex y := by
 intro m
 induction m with
 | zero =>
  intro a s y h hs hy; obtain rfl : a = [] := List.eq_nil_of_length_eq_zero (by omega)
  have hy0 : rn bk y = 0 := by
   cases y with
   | nil => rfl
   | cons c r => rw [rn, if_neg (by rw [hy c r rfl]; decide)]
  have e1 := nx_blank [] (s ++ y) (fun x hx => by cases hx); have e2 := nx_blank [] s (fun x hx => by cases hx); rw [rn_all bk s y hs, hy0] at e1
  have e3 : rn bk s = s.length := (by have := rn_all bk s [] hs; rw [List.append_nil] at this; rw [this]; rfl)
  rw [e3] at e2; rw [lex_of_ne ([] ++ 10 :: (s ++ y)) (by simp), lex_of_ne ([] ++ 10 :: s) (by simp), e1, e2]; simp only [List.length_nil, List.nil_append, List.cons_append]
  have t1 : (10 :: (s ++ y)).take (0 + 1 + (s.length + 0)) = 10 :: s := by
   rw [show 10 :: (s ++ y) = (10 :: s) ++ y from rfl]; exact List.take_left' (by simp; omega)
  have t2 : (10 :: s).take (0 + 1 + s.length) = 10 :: s := List.take_of_length_le (by simp; omega)
  have d1 : (10 :: (s ++ y)).drop (0 + 1 + (s.length + 0)) = y := by
   rw [show 10 :: (s ++ y) = (10 :: s) ++ y from rfl]; exact List.drop_left' (by simp; omega)
  have d2 : (10 :: s).drop (0 + 1 + s.length) = [] := List.drop_of_length_le (by simp; omega); rw [t1, t2, d1, d2, lex_nil, List.nil_append]
 | succ m ih =>
  intro a s y h hs hy
  cases a with
  | nil => exact ih [] s y (Nat.zero_le _) hs hy
  | cons c a =>
   simp only [List.length_cons] at h; by_cases hb : ∀ x ∈ c :: a, bk x = true
   ·have hy0 : rn bk y = 0 := by
     cases y with
     | nil => rfl
     | cons c r => rw [rn, if_neg (by rw [hy c r rfl]; decide)]
    have e1 := nx_blank (c :: a) (s ++ y) hb; have e2 := nx_blank (c :: a) s hb; rw [rn_all bk s y hs, hy0] at e1
    have e3 : rn bk s = s.length := (by have := rn_all bk s [] hs; rw [List.append_nil] at this; rw [this]; rfl)
    rw [e3] at e2; rw [lex_of_ne (c :: a ++ 10 :: (s ++ y)) (by simp), lex_of_ne (c :: a ++ 10 :: s) (by simp), e1, e2]
    have t0 : c :: a ++ 10 :: (s ++ y) = (c :: a ++ 10 :: s) ++ y := (by simp)
    have t1 : (c :: a ++ 10 :: (s ++ y)).take ((c :: a).length + 1 + (s.length + 0)) = c :: a ++ 10 :: s := by
     rw [t0]; exact List.take_left' (by simp; omega)
    have t2 : (c :: a ++ 10 :: s).take ((c :: a).length + 1 + s.length) = c :: a ++ 10 :: s := List.take_of_length_le (by simp; omega)
    have d1 : (c :: a ++ 10 :: (s ++ y)).drop ((c :: a).length + 1 + (s.length + 0)) = y := by
     rw [t0]; exact List.drop_left' (by simp; omega)
    have d2 : (c :: a ++ 10 :: s).drop ((c :: a).length + 1 + s.length) = [] := List.drop_of_length_le (by simp; omega); dsimp only; rw [t1, t2, d1, d2, lex_nil]; rfl
   ·have n1 := (nx_nl c a (s ++ y)).resolve_right hb; have n2 := (nx_nl c a s).resolve_right hb; have hp := nx_pos c (a ++ [10]); rw [lex_of_ne (c :: a ++ 10 :: (s ++ y)) (by simp), lex_of_ne (c :: a ++ 10 :: s) (by simp), n1.1, n2.1]; rw [take_app _ n1.2, take_app _ n1.2, drop_app _ n1.2, drop_app _ n1.2]; have hp : 0 < (nx (c :: a ++ [10])).2 := hp.1; rw [ih _ s y (by rw [List.length_drop]; simp only [List.length_cons]; omega) hs hy]; rfl
/-- Ahead of a line feed's blank: tokens that end ahead of it stay, whatever stands behind it. -/
theorem lex_ahead : ∀ (u : List Tk) (d z z' : Bs) (v : List Tk), (∀ x ∈ d, bk x = true) → lex (cat u ++ (d ++ 10 :: z)) = u ++ v → lex (cat u ++ (d ++ 10 :: z')) = u ++ lex (d ++ 10 :: z')
 | [], d, z, z', v, _, _ => rfl
 | t :: u, d, z, z', v, hd, h => by
  have hne : t.2 ≠ [] := lex_pos (cat (t :: u) ++ (d ++ 10 :: z)) t (by rw [h]; exact List.mem_cons_self); obtain ⟨k, w⟩ := t
  cases w with
  | nil => exact absurd rfl hne
  | cons c w =>
   rw [cat_cons] at h ⊢; simp only [List.append_assoc] at h ⊢
   have hlt : (nx ((c :: w) ++ (cat u ++ (d ++ 10 :: z)))).2 = (c :: w).length := by
    have e := lex_of_ne ((c :: w) ++ (cat u ++ (d ++ 10 :: z))) (by simp); rw [h] at e; rw [List.cons_append] at e; injection e with e1 e2; have e3 := congrArg List.length (congrArg Prod.snd e1); simp only [List.length_take] at e3; have := nx_pos c (w ++ (cat u ++ (d ++ 10 :: z))); simp only [List.cons_append] at this e3 ⊢
    omega
   have key : ∀ z, (c :: w) ++ (cat u ++ (d ++ 10 :: z)) = c :: (w ++ cat u ++ d) ++ 10 :: z := fun z => by simp
   have hnb : ¬ (∀ x ∈ c :: (w ++ cat u ++ d), bk x = true) := by
    intro hb; have := nx_blank _ z hb; rw [← key] at this; rw [this] at hlt; simp only [List.length_cons, List.length_append] at hlt
    omega
   have n1 := (nx_nl c (w ++ cat u ++ d) z).resolve_right hnb; have n2 := (nx_nl c (w ++ cat u ++ d) z').resolve_right hnb
   have hnx : nx ((c :: w) ++ (cat u ++ (d ++ 10 :: z'))) = nx ((c :: w) ++ (cat u ++ (d ++ 10 :: z))) := by
    rw [key, key, n1.1, n2.1]
   have e := lex_of_ne ((c :: w) ++ (cat u ++ (d ++ 10 :: z))) (by simp); rw [h, hlt, List.take_left' rfl, List.drop_left' rfl, List.cons_append] at e; injection e with e1 e2; have ih := lex_ahead u d z z' v hd e2.symm; rw [lex_of_ne ((c :: w) ++ (cat u ++ (d ++ 10 :: z'))) (by simp), hnx, hlt, List.take_left' rfl, List.drop_left' rfl, ih, e1]; rfl
/-- A token with a line feed is a blank, and the longest one. -/
theorem nx_has (l : Bs) (h : (10 : UInt8) ∈ l.take (nx l).2) : (∀ x ∈ l.take (nx l).2, bk x = true) ∧ (∀ c r, l.drop (nx l).2 = c :: r → bk c = false) := by
 obtain ⟨a, b, hab, hna⟩ : ∃ a b, l = a ++ 10 :: b ∧ (10 : UInt8) ∉ a := by
  obtain ⟨a, b, e, hn⟩ := List.append_of_mem (List.mem_of_mem_take h) |> fun ⟨a, b, e⟩ => (List.eq_append_cons_of_mem (List.mem_of_mem_take h))
  exact ⟨a, b, e, hn⟩
 subst hab
 have key : ∀ x ∈ a, bk x = true := by
  cases a with
  | nil => intro x hx; cases hx
  | cons c a =>
   rcases nx_nl c a b with ⟨h1, h2⟩ | hb
   ·exfalso
    rw [h1, take_app _ h2] at h; exact hna (List.mem_of_mem_take h)
   ·exact hb
 have e := nx_blank a b key; rw [e]; dsimp only
 have hr : ∀ b : Bs, (∀ x ∈ b.take (rn bk b), bk x = true) ∧ (∀ c r, b.drop (rn bk b) = c :: r → bk c = false) := by
  intro b
  induction b with
  | nil => exact ⟨fun x hx => by simp at hx, fun c r h => by simp at h⟩
  | cons y b ih =>
   rw [rn]; by_cases hy : bk y = true
   ·rw [if_pos hy]; refine ⟨fun x hx => ?_, fun c r h => ?_⟩
    ·rw [List.take_succ_cons] at hx
     rcases List.mem_cons.1 hx with rfl | hx
     ·exact hy
     ·exact ih.1 x hx
    ·rw [List.drop_succ_cons] at h; exact ih.2 c r h
   ·rw [if_neg hy]; refine ⟨fun x hx => by simp at hx, fun c r h => ?_⟩; rw [List.drop_zero] at h; injection h with h _; rw [← h]
    simpa using hy
 have t1 : (a ++ 10 :: b).take (a.length + 1 + rn bk b) = a ++ 10 :: b.take (rn bk b) := by
  rw [show a.length + 1 + rn bk b = a.length + (rn bk b + 1) by omega, List.take_length_add_append, List.take_succ_cons]
 have t2 : (a ++ 10 :: b).drop (a.length + 1 + rn bk b) = b.drop (rn bk b) := by
  rw [show a.length + 1 + rn bk b = a.length + (rn bk b + 1) by omega, List.drop_length_add_append, List.drop_succ_cons]
 rw [t1, t2]; refine ⟨fun x hx => ?_, (hr b).2⟩
 rcases List.mem_append.1 hx with hx | hx
 ·exact key x hx
 ·rcases List.mem_cons.1 hx with rfl | hx
  ·decide
  ·exact (hr b).1 x hx
/-- The tokens behind a part of the tokens. -/
theorem lex_tail : ∀ (u : List Tk) (T : Bs) (v : List Tk), lex T = u ++ v → T = cat u ++ cat v ∧ lex (cat v) = v
 | [], T, v, h => by
  have h : lex T = v := h; have e := cat_lex T.length T (Nat.le_refl _); rw [← h]; rw [e]; exact ⟨rfl, rfl⟩
 | t :: u, T, v, h => by
  cases T with
  | nil => cases h
  | cons c r =>
   rw [lex_cons, List.cons_append] at h; injection h with h1 h2; obtain ⟨i1, i2⟩ := lex_tail u _ v h2; refine ⟨?_, i2⟩; rw [cat_cons, List.append_assoc, ← i1, ← h1]; exact (List.take_append_drop _ _).symm
/-- A token with a line feed, among all. -/
theorem lex_has (u : List Tk) (T : Bs) (t : Tk) (v : List Tk) (h : lex T = u ++ t :: v) (hm : (10 : UInt8) ∈ t.2) : (∀ x ∈ t.2, bk x = true) ∧ (∀ c r, cat v = c :: r → bk c = false) := by
 obtain ⟨h1, h2⟩ := lex_tail u T (t :: v) h
 have hne : cat (t :: v) ≠ [] := by
  intro e; rw [e] at h2
  cases h2
 have e := lex_of_ne _ hne; rw [h2] at e; injection e with e1 e2; have e3 : t.2 = (cat (t :: v)).take (nx (cat (t :: v))).2 := congrArg Prod.snd e1
 have e4 : cat v = (cat (t :: v)).drop (nx (cat (t :: v))).2 := by
  have := cat_lex _ ((cat (t :: v)).drop (nx (cat (t :: v))).2) (Nat.le_refl _); rw [← e2] at this; exact this
 rw [e3] at hm ⊢; rw [e4]; exact nx_has _ hm
def Front (P : Bs) (u : List Tk) : Prop := (cat u).length ≤ P.length ∧ ∀ W, lex (P ++ W) = u ++ lex ((P ++ W).drop (cat u).length)
def Back (Q : Bs) (v : List Tk) : Prop := (cat v).length ≤ Q.length ∧ ∀ X, lex (X ++ Q) = lex ((X ++ Q).take ((X ++ Q).length - (cat v).length)) ++ v
theorem front_nil (P : Bs) : Front P [] := ⟨Nat.zero_le _, fun W => rfl⟩
theorem back_nil (Q : Bs) : Back Q [] := ⟨Nat.zero_le _, fun X => by
 show _ = lex ((X ++ Q).take ((X ++ Q).length - 0)) ++ []
 rw [Nat.sub_zero, List.take_length, List.append_nil]⟩
theorem front_back {P Q : Bs} {u v : List Tk} (hP : Front P u) (hQ : Back Q v) (M : Bs) :
  lex (P ++ (M ++ Q)) = u ++ (lex (((P ++ (M ++ Q)).take ((P ++ (M ++ Q)).length - (cat v).length)).drop (cat u).length) ++ v) := by
 rw [hP.2, drop_app _ hP.1, show P.drop (cat u).length ++ (M ++ Q) = (P.drop (cat u).length ++ M) ++ Q by rw [List.append_assoc], hQ.2]
 congr 3
 rw [List.drop_take]; rw [show P ++ (M ++ Q) = (P ++ M) ++ Q by rw [List.append_assoc], drop_app _ (by have := hP.1; simp; omega), drop_app _ hP.1]
 congr 1
 have := hP.1; have := hQ.1; simp only [List.length_append, List.length_drop]
 omega
theorem mid_split {u x y P Z : Bs} (h : u ++ (x ++ y) = P ++ 10 :: Z) (h1 : u.length ≤ P.length) (h2 : P.length < u.length + x.length) : ∃ d s, P = u ++ d ∧ x = d ++ 10 :: s ∧ Z = s ++ y := by
 have e1 : P.take u.length = u := by
  have := congrArg (List.take u.length) h; rw [List.take_left' rfl, take_app _ h1] at this; exact this.symm
 obtain ⟨d, rfl⟩ : ∃ d, P = u ++ d := ⟨P.drop u.length, by rw [← e1, List.length_take, Nat.min_eq_left h1, List.take_append_drop]⟩
 rw [List.append_assoc] at h; have h := List.append_cancel_left h; rw [List.length_append] at h2
 have e2 : x.take d.length = d := by
  have := congrArg (List.take d.length) h; rw [List.take_left' rfl, take_app _ (by omega)] at this; exact this
 obtain ⟨q, hq⟩ : ∃ q, x = d ++ q := ⟨x.drop d.length, by
  have h3 : d.length ≤ x.length := (by omega)
  conv => rhs; lhs; rw [← e2]
  rw [List.take_append_drop]⟩
 subst hq; rw [List.append_assoc] at h; have h := List.append_cancel_left h
 cases q with
 | nil => simp at h2
 | cons c s =>
  rw [List.cons_append] at h; injection h with h3 h4; subst h3; exact ⟨d, s, rfl, rfl, h4.symm⟩
theorem front_of {T P Z : Bs} {u v : List Tk} {t : Tk} (hs : lex T = u ++ t :: v) (hT : T = P ++ 10 :: Z) (h1 : (cat u).length ≤ P.length) (h2 : P.length < (cat u).length + t.2.length) (P2 : Bs) : Front (P ++ 10 :: P2) u := by
 obtain ⟨e, _⟩ := lex_tail _ T _ hs; rw [cat_cons] at e; obtain ⟨d, s, rfl, hx, hZ⟩ := mid_split (e.symm.trans hT) h1 h2; obtain ⟨hb, _⟩ := lex_has _ T _ _ hs (by rw [hx]; simp); rw [hx] at hb
 have hd : ∀ x ∈ d, bk x = true := fun x hx => hb x (List.mem_append_left _ hx)
 refine ⟨by simp, fun W => ?_⟩; rw [hT, List.append_assoc] at hs; have := lex_ahead u d Z (P2 ++ W) (t :: v) hd hs; rw [show cat u ++ d ++ 10 :: P2 ++ W = cat u ++ (d ++ 10 :: (P2 ++ W)) by simp, this, List.drop_left' rfl]
theorem back_of {T P Z : Bs} {u v : List Tk} {t : Tk} (hs : lex T = u ++ t :: v) (hT : T = P ++ 10 :: Z) (h1 : (cat u).length ≤ P.length) (h2 : P.length < (cat u).length + t.2.length) (P2 : Bs) : Back (P2 ++ 10 :: Z) v := by
 obtain ⟨e, _⟩ := lex_tail _ T _ hs; have hv : lex (cat v) = v := (lex_tail (u ++ [t]) T v (by rw [hs]; simp)).2; rw [cat_cons] at e; obtain ⟨d, s, rfl, hx, hZ⟩ := mid_split (e.symm.trans hT) h1 h2; obtain ⟨hb, hm⟩ := lex_has _ T _ _ hs (by rw [hx]; simp); rw [hx] at hb
 have hd : ∀ x ∈ s, bk x = true := fun x hx => hb x (List.mem_append_right _ (List.mem_cons_of_mem _ hx))
 subst hZ; refine ⟨by simp; omega, fun X => ?_⟩; have := lex_behind (X ++ P2).length (X ++ P2) s (cat v) (Nat.le_refl _) hd hm; rw [hv] at this; rw [show X ++ (P2 ++ 10 :: (s ++ cat v)) = X ++ P2 ++ 10 :: (s ++ cat v) by simp, this]
 congr 2
 rw [show X ++ P2 ++ 10 :: (s ++ cat v) = (X ++ P2 ++ 10 :: s) ++ cat v by simp, List.take_left']; simp only [List.length_append]
 omega
end Go.Proofs.Ytahcpappailjgaa.P

set_option linter.unusedVariables false
set_option linter.unusedSimpArgs false
namespace Go.Proofs.Ytahcpappailjgaa.P
open Go.RowKit Go.Proofs.YtahcpappailjgaaW.PrintWords Go.Proofs.YtahcpappailjgaaW.PrintLast Go.Proofs.YtahcpappailjgaaW.PrintMore
theorem rremark (s : ByteArray) (i : Nat) (hi : i < s.size) (hz : s.size ≤ 1000000000) : marginaliaref03_remark.f s (i : Int) = some (decide ((s.data.toList.drop i).take 2 = [47, 47])) := by
 unfold marginaliaref03_remark.f; rw [w64 (n := (i : Int) + 1) (by omega) (by omega)]; obtain ⟨c, r, h⟩ := drop_cons_of_lt hi; obtain ⟨_, hb⟩ := bt_drop h; rw [h, hb]; by_cases h1 : i + 1 < s.size
 ·obtain ⟨d, r', h'⟩ := drop_cons_of_lt h1; obtain ⟨_, hb'⟩ := bt_drop h'; rw [drop_next h] at h'; rw [h', if_pos (by omega), if_pos (by omega), if_pos (by omega)]; have hb' : bt s ((i : Int) + 1) = (d.toNat : Int) := hb'; have b47 : (c.toNat : Int) = 47 ↔ c = 47 := byte_int c 47 (by decide); by_cases hc : c = 47
  ·rw [if_pos (b47.2 hc), if_pos (by omega), hb', hc]
   congr 1
   by_cases hd : d = 47
   ·rw [hd]; rfl
   ·have e1 : ((d.toNat : Int) == 47) = false := beq_eq_false_iff_ne.2 (fun x => hd ((byte_int d 47 (by decide)).1 x)); rw [e1]
    symm
    apply decide_eq_false
    intro e; injection e with _ e; injection e with e _; exact hd e
  ·rw [if_neg (fun x => hc (b47.1 x))]
   congr 1
   symm
   apply decide_eq_false
   intro e; injection e with e _; exact hc e
 ·rw [if_neg (by omega)]
  congr 1
  symm
  apply decide_eq_false
  intro e; have := congrArg List.length e; have h3 := congrArg List.length h; rw [List.length_drop, isize] at h3; simp only [List.length_take, List.length_cons, List.length_nil] at this h3
  omega
theorem rline (s : ByteArray) (hz : s.size ≤ 1000000000) : ∀ (r : Bs) (i : Nat), s.data.toList.drop i = r → Ev (fun k => marginaliaref03_line.l0 k s (i : Int)) ((i + rn nl r : Nat) : Int) := by
 intro r
 induction r with
 | nil =>
  intro i h; have := nil_drop h; refine Ev.shift ?_; simp only [marginaliaref03_line.l0]; exact Ev.neg (by omega) (Ev.now _)
 | cons c r ih =>
  intro i h; obtain ⟨hlt, hb⟩ := bt_drop h; refine Ev.shift ?_; simp only [marginaliaref03_line.l0]; rw [hb, rn]; refine Ev.pos (by omega) (Ev.pos (by omega) ?_); by_cases hc : c = 10
  ·rw [if_neg (by rw [hc]; decide)]; exact Ev.pos ((byte_int c 10 (by decide)).2 hc) (Ev.now _)
  ·rw [if_pos (by unfold nl; rw [bne_iff_ne]; exact hc), w64 (n := (i : Int) + 1) (by omega) (by omega)]; refine Ev.neg (fun x => hc ((byte_int c 10 (by decide)).1 x)) ?_; have := ih (i + 1) (drop_next h); rw [show i + 1 + rn nl r = i + (rn nl r + 1) by omega] at this
   exact_mod_cast this
theorem cut_some (s : ByteArray) (kind : Int) (a b : Nat) (hab : a ≤ b) (hb : b ≤ s.size) : (if 0 ≤ (a : Int) then (if (a : Int) ≤ (b : Int) then (if (b : Int) ≤ (s.size : Int) then some (kind, s.extract ((a : Int)).toNat ((b : Int)).toNat) else none) else none) else none) = some (kind, s.extract a b) := by
 rw [if_pos (by omega), if_pos (by omega), if_pos (by omega)]; rfl
theorem rblanks (s : ByteArray) (hz : s.size ≤ 1000000000) (a : Nat) : ∀ (r : Bs) (i : Nat), s.data.toList.drop i = r → a ≤ i → i ≤ s.size → Ev (fun k => marginaliaref03_Next.l0 k s (a : Int) (i : Int)) (1, s.extract a (i + rn bk r)) := by
 intro r
 induction r with
 | nil =>
  intro i h ha hi; have := nil_drop h; refine Ev.shift ?_; simp only [marginaliaref03_Next.l0]; refine Ev.neg (by omega) ?_; exact Ev.congr (fun _ => cut_some s 1 a i ha hi) (Ev.now _)
 | cons c r ih =>
  intro i h ha hi; obtain ⟨hlt, hb⟩ := bt_drop h; refine Ev.shift ?_; simp only [marginaliaref03_Next.l0]; rw [hb, rn]; refine Ev.pos (by omega) (Ev.pos (by omega) (Ev.bind1 (rblank c) ?_)); by_cases hc : bk c = true
  ·simp only [if_pos hc]; rw [w64 (n := (i : Int) + 1) (by omega) (by omega)]; have := ih (i + 1) (drop_next h) (by omega) (by omega); rw [show i + 1 + rn bk r = i + (rn bk r + 1) by omega] at this
   exact_mod_cast this
  ·simp only [if_neg hc]; exact Ev.congr (fun _ => cut_some s 1 a i ha hi) (Ev.now _)
theorem rdigits (s : ByteArray) (hz : s.size ≤ 1000000000) (a : Nat) : ∀ (r : Bs) (i : Nat), s.data.toList.drop i = r → a ≤ i → i ≤ s.size → Ev (fun k => marginaliaref03_Next.l2 k s (a : Int) (i : Int)) (5, s.extract a (i + rn dg r)) := by
 intro r
 induction r with
 | nil =>
  intro i h ha hi; have := nil_drop h; refine Ev.shift ?_; simp only [marginaliaref03_Next.l2]; refine Ev.neg (by omega) ?_; exact Ev.congr (fun _ => cut_some s 5 a i ha hi) (Ev.now _)
 | cons c r ih =>
  intro i h ha hi; obtain ⟨hlt, hb⟩ := bt_drop h; refine Ev.shift ?_; simp only [marginaliaref03_Next.l2]; rw [hb, rn]; refine Ev.pos (by omega) (Ev.pos (by omega) (Ev.bind1 (rdigit c) ?_)); by_cases hc : dg c = true
  ·simp only [if_pos hc]; rw [w64 (n := (i : Int) + 1) (by omega) (by omega)]; have := ih (i + 1) (drop_next h) (by omega) (by omega); rw [show i + 1 + rn dg r = i + (rn dg r + 1) by omega] at this
   exact_mod_cast this
  ·simp only [if_neg hc]; exact Ev.congr (fun _ => cut_some s 5 a i ha hi) (Ev.now _)
theorem rwordend (s : ByteArray) (hz : s.size ≤ 1000000000) (a b : Nat) (hab : a ≤ b) (hb : b ≤ s.size) : Ev (fun k => marginaliaref03_Next.j2 k s (a : Int) (b : Int)) (if (s.extract a b).data.toList ∈ ws then 4 else 3, s.extract a b) := by
 obtain ⟨l, hl, hw⟩ := has_words (s.extract a b); refine Ev.shift ?_; simp only [marginaliaref03_Next.j2]; refine Ev.bind1 hl (Ev.pos (by omega) (Ev.pos (by omega) (Ev.pos (by omega) ?_))); simp only [Int.toNat_natCast]; refine Ev.bind hw ?_; by_cases h : (s.extract a b).data.toList ∈ ws
 ·simp only [if_pos h, decide_eq_true h, if_true]; exact Ev.now _
 ·simp only [if_neg h, decide_eq_false h]; exact Ev.now _
theorem rletters (s : ByteArray) (hz : s.size ≤ 1000000000) (a : Nat) : ∀ (r : Bs) (i : Nat), s.data.toList.drop i = r → a ≤ i → i ≤ s.size → Ev (fun k => marginaliaref03_Next.l1 k s (a : Int) (i : Int)) (if (s.extract a (i + rn ld r)).data.toList ∈ ws then 4 else 3, s.extract a (i + rn ld r)) := by
 intro r
 induction r with
 | nil =>
  intro i h ha hi; have := nil_drop h; refine Ev.shift ?_; simp only [marginaliaref03_Next.l1]; refine Ev.neg (by omega) ?_; exact rwordend s hz a i ha hi
 | cons c r ih =>
  intro i h ha hi; obtain ⟨hlt, hb⟩ := bt_drop h; refine Ev.shift ?_; simp only [marginaliaref03_Next.l1]; rw [hb, rn]; refine Ev.pos (by omega) (Ev.pos (by omega) (Ev.bind1 (rletter c) ?_)); have hn := ih (i + 1) (drop_next h) (by omega) (by omega); rw [show i + 1 + rn ld r = i + (rn ld r + 1) by omega] at hn; rw [w64 (n := (i : Int) + 1) (by omega) (by omega)]; by_cases hc : lt c = true
  ·have hl : ld c = true := (by unfold ld; rw [hc]; rfl)
   simp only [if_pos hc, if_pos hl]
   exact_mod_cast hn
  ·simp only [if_neg hc]; refine Ev.bind1 (rdigit c) ?_; by_cases hd : dg c = true
   ·have hl : ld c = true := (by unfold ld; rw [hd]; simp)
    simp only [if_pos hd, if_pos hl]
    exact_mod_cast hn
   ·have hl : ¬ ld c = true := (by unfold ld; rw [Bool.not_eq_true] at hc hd; rw [hc, hd]; decide)
    simp only [if_neg hd, if_neg hl]; exact rwordend s hz a i ha hi
theorem rn_cons_pos {p : UInt8 → Bool} {c : UInt8} {r : Bs} (h : p c = true) : rn p (c :: r) = rn p r + 1 := by rw [rn, if_pos h]
theorem rbegins (s : ByteArray) (hz : s.size ≤ 1000000000) (i : Nat) (c : UInt8) (r : Bs) (h : s.data.toList.drop i = c :: r) : Ev (fun k => marginaliaref03_begins.f k s (i : Int)) (decide (c = 34 ∨ 0 < (gd (c :: r)).2)) := by
 obtain ⟨hlt, hb⟩ := bt_drop h; unfold marginaliaref03_begins.f; refine Ev.pos (by omega) (Ev.pos (by omega) ?_); rw [hb, gd_cons]; refine Ev.bind1 (rblank c) ?_; by_cases h1 : bk c = true
 ·simp only [if_pos h1]; rw [decide_eq_true (.inr (by rw [rn_cons_pos h1]; exact Nat.succ_pos _))]; exact Ev.now _
 ·simp only [if_neg h1]; refine Ev.bind1 (rletter c) ?_; by_cases h3 : lt c = true
  ·simp only [if_pos h3]
   have h4 : ¬ (c :: r).take 2 = [47, 47] := by
    intro e; rw [List.take_succ_cons] at e; injection e with e _; rw [e] at h3
    revert h3
    decide
   rw [if_neg h4, decide_eq_true (.inr (by rw [rn_cons_pos (by unfold ld; rw [h3]; rfl)]; exact Nat.succ_pos _))]; exact Ev.now _
  ·simp only [if_neg h3]; refine Ev.bind1 (rdigit c) ?_; by_cases h4 : dg c = true
   ·simp only [if_pos h4]
    have h5 : ¬ (c :: r).take 2 = [47, 47] := by
     intro e; rw [List.take_succ_cons] at e; injection e with e _; rw [e] at h4
     revert h4
     decide
    rw [if_neg h5, decide_eq_true (.inr (by rw [rn_cons_pos h4]; exact Nat.succ_pos _))]; exact Ev.now _
   ·simp only [if_neg h4]; by_cases h5 : c = 34
    ·rw [decide_eq_true (.inl h5)]; exact Ev.pos ((byte_int c 34 (by decide)).2 h5) (Ev.now _)
    ·refine Ev.neg (fun x => h5 ((byte_int c 34 (by decide)).1 x)) (Ev.bind1 (rremark s i hlt hz) ?_); rw [h]; by_cases h6 : (c :: r).take 2 = [47, 47]
     ·rw [if_pos h6, decide_eq_true h6]
      have h7 : c = 47 := by
       rw [List.take_succ_cons] at h6; injection h6
      rw [decide_eq_true (.inr (by rw [rn_cons_pos (by rw [h7]; decide)]; exact Nat.succ_pos _))]; exact Ev.pos rfl (Ev.now _)
     ·rw [if_neg h6, decide_eq_false h6]; refine Ev.neg (by decide) ?_; have hs := rsn s i hlt hz; rw [h] at hs; refine Ev.bind hs ?_; simp only [if_neg h5]; have e1 : decide (c = 34 ∨ 0 < sn (c :: r)) = decide ((sn (c :: r) : Int) > 0) := decide_eq_decide.2 ⟨fun x => x.elim (fun e => absurd e h5) (fun x => by omega), fun x => .inr (by omega)⟩; rw [e1]; exact Ev.now _
theorem rbad (s : ByteArray) (hz : s.size ≤ 1000000000) (a : Nat) : ∀ (r : Bs) (i : Nat), s.data.toList.drop i = r → a ≤ i → i ≤ s.size → Ev (fun k => marginaliaref03_Next.l3 k s (a : Int) (i : Int)) (8, s.extract a (i + sk r)) := by
 intro r
 induction r with
 | nil =>
  intro i h ha hi; have := nil_drop h; refine Ev.shift ?_; simp only [marginaliaref03_Next.l3]; refine Ev.neg (by omega) ?_; exact Ev.congr (fun _ => cut_some s 8 a i ha hi) (Ev.now _)
 | cons c r ih =>
  intro i h ha hi; obtain ⟨hlt, hb⟩ := bt_drop h; refine Ev.shift ?_; simp only [marginaliaref03_Next.l3]; rw [sk]; refine Ev.pos (by omega) (Ev.bind (rbegins s hz i c r h) ?_); by_cases hc : c = 34 ∨ 0 < (gd (c :: r)).2
  ·rw [if_pos hc]; refine Ev.pos (decide_eq_true hc) ?_; exact Ev.congr (fun _ => cut_some s 8 a i ha hi) (Ev.now _)
  ·rw [if_neg hc, w64 (n := (i : Int) + 1) (by omega) (by omega)]; refine Ev.neg (by rw [decide_eq_false hc]; decide) ?_; have := ih (i + 1) (drop_next h) (by omega) (by omega); rw [show i + 1 + sk r = i + (sk r + 1) by omega] at this
   exact_mod_cast this
theorem Next_ev (s : ByteArray) (hz : s.size ≤ 1000000000) (i : Nat) (c : UInt8) (r : Bs) (h : s.data.toList.drop i = c :: r) : Ev (fun k => marginaliaref03_Next.f k s (i : Int)) ((nx (c :: r)).1, s.extract i (i + (nx (c :: r)).2)) := by
 obtain ⟨hlt, hb⟩ := bt_drop h
 have hlen : (c :: r).length = s.size - i := (by rw [← h, List.length_drop, isize])
 unfold marginaliaref03_Next.f; refine Ev.pos (by omega) (Ev.pos (by omega) ?_); rw [hb, w64 (n := (i : Int) + 1) (by omega) (by omega), nx_cons]; refine Ev.bind1 (rblank c) ?_; have hg := gd_cons c r; have hr := drop_next h; by_cases h1 : bk c = true
 ·simp only [if_pos h1] at hg ⊢; rw [hg]
  have h0 : 0 < ((1 : Int), rn bk (c :: r)).2 := (by rw [rn_cons_pos h1]; exact Nat.succ_pos _)
  rw [if_pos h0, rn_cons_pos h1]; have := rblanks s hz i r (i + 1) hr (by omega) (by omega); rw [show i + 1 + rn bk r = i + (rn bk r + 1) by omega] at this
  exact_mod_cast this
 ·simp only [if_neg h1] at hg ⊢; refine Ev.bind1 (rremark s i hlt hz) ?_; rw [h]; by_cases h2 : (c :: r).take 2 = [47, 47]
  ·rw [if_pos h2] at hg
   have h7 : c = 47 := by
    rw [List.take_succ_cons] at h2; injection h2
   have h0 : 0 < ((2 : Int), rn nl (c :: r)).2 := (by rw [rn_cons_pos (by rw [h7]; decide)]; exact Nat.succ_pos _)
   rw [hg, if_pos h0]; refine Ev.pos (decide_eq_true h2) ?_; have := rline s hz (c :: r) i h; refine Ev.bind this ?_; have hn := rn_le nl (c :: r); refine Ev.pos (by omega) (Ev.pos (by omega) ?_); exact Ev.now _
  ·rw [if_neg h2] at hg; refine Ev.neg (by rw [decide_eq_false h2]; decide) (Ev.bind1 (rletter c) ?_); by_cases h3 : lt c = true
   ·simp only [if_pos h3] at hg ⊢
    have hl : ld c = true := (by unfold ld; rw [h3]; rfl)
    have hn := rn_le ld (c :: r)
    have e1 : (s.extract i (i + rn ld (c :: r))).data.toList = (c :: r).take (rn ld (c :: r)) := (by rw [ext_list, h]; congr 1; omega)
    have h0 : ∀ x : Int, 0 < (x, rn ld (c :: r)).2 := fun _ => by rw [rn_cons_pos hl]; exact Nat.succ_pos _
    rw [hg, if_pos (h0 _)]; have := rletters s hz i r (i + 1) hr (by omega) (by omega); rw [show i + 1 + rn ld r = i + rn ld (c :: r) by rw [rn_cons_pos hl]; omega, e1] at this
    exact_mod_cast this
   ·simp only [if_neg h3] at hg ⊢; refine Ev.bind1 (rdigit c) ?_; by_cases h4 : dg c = true
    ·simp only [if_pos h4] at hg ⊢
     have h0 : 0 < ((5 : Int), rn dg (c :: r)).2 := (by rw [rn_cons_pos h4]; exact Nat.succ_pos _)
     rw [hg, if_pos h0, rn_cons_pos h4]; have := rdigits s hz i r (i + 1) hr (by omega) (by omega); rw [show i + 1 + rn dg r = i + (rn dg r + 1) by omega] at this
     exact_mod_cast this
    ·simp only [if_neg h4] at hg ⊢; by_cases h5 : c = 34
     ·rw [if_pos h5] at hg; refine Ev.pos ((byte_int c 34 (by decide)).2 h5) ?_; rw [hg]; have hq := rqt s hz r.length r (i + 1) (Nat.le_refl _) hr
      have hq : Ev (fun k => marginaliaref03_quoted.f k s (i : Int)) (qe (i + 1) (qt r)) := by
       unfold marginaliaref03_quoted.f; rw [w64 (n := (i : Int) + 1) (by omega) (by omega)]
       exact_mod_cast hq
      refine Ev.bind hq ?_
      cases e : qt r with
      | none =>
       have e0 : qe (i + 1) (none : Option Nat) = 0 := rfl
       have e1 : (if 0 < ((6 : Int), qn none).2 then ((6 : Int), qn none) else if c = 34 then (8, rn nl (c :: r)) else (8, sk r + 1)) = (8, rn nl (c :: r)) := (by rw [if_neg (show ¬ 0 < ((6 : Int), qn none).2 from Nat.lt_irrefl 0), if_pos h5])
       rw [e0, e1]; refine Ev.neg (by decide) ?_; refine Ev.bind (rline s hz (c :: r) i h) ?_; have hn := rn_le nl (c :: r); refine Ev.pos (by omega) (Ev.pos (by omega) ?_); exact Ev.now _
      | some n =>
       have hp := qt_pos r.length r (Nat.le_refl _) n e; simp only [List.length_cons] at hlen; have e0 : qe (i + 1) (some n) = ((i + 1 + n : Nat) : Int) := rfl; have e1 : (if 0 < ((6 : Int), qn (some n)).2 then ((6 : Int), qn (some n)) else if c = 34 then (8, rn nl (c :: r)) else (8, sk r + 1)) = (6, n + 1) := if_pos (Nat.succ_pos n); rw [e0, e1]; refine Ev.pos (by omega) (Ev.pos (by omega) (Ev.pos (by omega) ?_)); rw [show i + 1 + n = i + (n + 1) by omega]; exact Ev.now _
     ·rw [if_neg h5] at hg; refine Ev.neg (fun x => h5 ((byte_int c 34 (by decide)).1 x)) ?_; rw [hg]; have hs := rsn s i hlt hz; rw [h] at hs; have hn := sn_le c r; refine Ev.bind hs ?_; rw [w64 (n := (i : Int) + (sn (c :: r) : Int)) (by omega) (by omega)]; by_cases h6 : 0 < sn (c :: r)
      ·rw [if_pos h6]; refine Ev.pos (by omega) (Ev.pos (by omega) (Ev.pos (by omega) ?_)); rw [Int.toNat_natCast, show ((i : Int) + (sn (c :: r) : Int)).toNat = i + sn (c :: r) by omega]; exact Ev.now _
      ·rw [if_neg h6, if_neg h5]; refine Ev.neg (by omega) ?_; have := rbad s hz i r (i + 1) hr (by omega) (by omega); rw [show i + 1 + sk r = i + (sk r + 1) by omega] at this
       exact_mod_cast this
end Go.Proofs.Ytahcpappailjgaa.P

set_option linter.unusedVariables false
set_option linter.unusedSimpArgs false
namespace Go.Proofs.Ytahcpappailjgaa.P
open Go.RowKit Go.Proofs.YtahcpappailjgaaW.PrintWords Go.Proofs.YtahcpappailjgaaW.PrintLast Go.Proofs.YtahcpappailjgaaW.PrintMore
abbrev Tn := S59
instance : DecidableEq Tn := fun a b =>
 if h : a.f0 = b.f0 ∧ a.f1 = b.f1 then isTrue (by cases a; cases b; simp only at h; rw [h.1, h.2]) else isFalse (fun e => h (by rw [e]; exact ⟨rfl, rfl⟩))
def mkS (t : Tk) : Tn := ⟨t.1, ba t.2⟩
def unS (t : Tn) : Tk := (t.f0, t.f1.data.toList)
theorem mk_un (t : Tn) : mkS (unS t) = t := by
 cases t with
 | mk a b => simp only [mkS, unS, list_ba]
theorem un_mk (t : Tk) : unS (mkS t) = t := by
 simp only [mkS, unS, ba_list]
theorem ba_eq {s : ByteArray} {l : Bs} (h : s.data.toList = l) : s = ba l := by rw [← h, list_ba]
theorem ext_ba (s : ByteArray) (a b : Nat) : s.extract a b = ba ((s.data.toList.drop a).take (b - a)) := ba_eq (ext_list s a b)
def lexS (s : Bs) : List Tn := (lex s).map mkS
theorem lx_lex : ∀ (m : Nat) (s : ByteArray), s.size ≤ m → lx m s = lexS s.data.toList := by
 intro m
 induction m with
 | zero =>
  intro s h; have h0 : s.data.toList = [] := List.eq_nil_of_length_eq_zero (by rw [isize]; omega); rw [lx, h0]; rfl
 | succ m ih =>
  intro s h; rw [lx]; by_cases h0 : s.size = 0
  ·have h0' : s.data.toList = [] := List.eq_nil_of_length_eq_zero (by rw [isize]; omega); rw [if_pos h0, h0']; rfl
  ·obtain ⟨c, r, hs⟩ := drop_cons_of_lt (s := s) (i := 0) (by omega); have hs : s.data.toList = c :: r := hs; obtain ⟨n1, n2⟩ := nx_pos c r; rw [← hs] at n1 n2; rw [if_neg h0, ih _ (by rw [ByteArray.size_extract]; omega), ext_suf, ext_ba]; rw [lexS, lexS, lex_of_ne s.data.toList (by rw [hs]; simp), List.map_cons]
   congr 1
theorem Lex_ev (s : ByteArray) (hz : s.size ≤ 1000000000) : Ev (fun k => token_Lex.f k s) (if (s.size : Int) > 20000 then ([], 3) else (lexS s.data.toList, 0)) := by
 unfold token_Lex.f; by_cases h : (s.size : Int) > 20000
 ·rw [if_pos h]; exact Ev.pos h (Ev.now _)
 ·rw [if_neg h]; have := lex_ev s.size s [] (Nat.le_refl _) hz (by simpa using hz); rw [lx_lex _ _ (Nat.le_refl _), List.nil_append] at this; exact Ev.neg h this
theorem rlex_loop (s : ByteArray) (hz : s.size ≤ 1000000000) : ∀ (m : Nat) (r : Bs) (i : Nat) (acc : List Tn), r.length ≤ m → s.data.toList.drop i = r → i ≤ s.size → acc.length + r.length ≤ 1000000000 → Ev (fun k => marginaliaref03_Lex.l0 k s acc (i : Int)) (acc ++ lexS r) := by
 intro m
 induction m with
 | zero =>
  intro r i acc hr h hi ha; obtain rfl : r = [] := List.eq_nil_of_length_eq_zero (by omega); have := nil_drop h; refine Ev.shift ?_; simp only [marginaliaref03_Lex.l0]; refine Ev.neg (by omega) ?_; rw [show lexS [] = [] from rfl, List.append_nil]; exact Ev.now _
 | succ m ih =>
  intro r i acc hr h hi ha
  cases r with
  | nil => exact ih [] i acc (Nat.zero_le _) h hi (by simp at ha ⊢; omega)
  | cons c r =>
   obtain ⟨hlt, _⟩ := bt_drop h; obtain ⟨n1, n2⟩ := nx_pos c r
   have hlen : (c :: r).length = s.size - i := (by rw [← h, List.length_drop, isize])
   have hx : (s.extract i (i + (nx (c :: r)).2)).size = (nx (c :: r)).2 := (by rw [ByteArray.size_extract]; omega)
   refine Ev.shift ?_; simp only [marginaliaref03_Lex.l0]; refine Ev.pos (by omega) (Ev.bind (Next_ev s hz i c r h) (Ev.pos (by simp only [List.length_cons] at ha; omega) ?_)); simp only [hx]; rw [w64 (by omega) (by omega)]; have := ih ((c :: r).drop (nx (c :: r)).2) (i + (nx (c :: r)).2) (acc ++ [⟨(nx (c :: r)).1, s.extract i (i + (nx (c :: r)).2)⟩]) (by rw [List.length_drop]; simp only [List.length_cons] at *; omega) (by rw [← List.drop_drop, h]) (by omega) (by rw [List.length_drop, List.length_append]; simp only [List.length_cons, List.length_nil] at *; omega)
   have e : acc ++ [⟨(nx (c :: r)).1, s.extract i (i + (nx (c :: r)).2)⟩] ++ lexS ((c :: r).drop (nx (c :: r)).2) = acc ++ lexS (c :: r) := by
    rw [lexS, lexS, lex_cons, List.map_cons, List.append_assoc, ext_ba, h]; rw [show i + (nx (c :: r)).2 - i = (nx (c :: r)).2 by omega]; rfl
   rw [e] at this
   exact_mod_cast this
theorem rLex_ev (s : ByteArray) (hz : s.size ≤ 1000000000) : Ev (fun k => marginaliaref03_Lex.f k s) (lexS s.data.toList) := by
 have := rlex_loop s hz s.size s.data.toList 0 [] (by rw [isize]; exact Nat.le_refl _) rfl (Nat.zero_le _) (by rw [isize]; simpa using hz); rw [List.nil_append] at this; exact this
/-! ### Same -/
theorem rd_tn {l : List Tn} {i : Nat} {e : Tn} {r : List Tn} (h : l.drop i = e :: r) : rd_T59 l (i : Int) = e := by
 have h1 : l[i]? = some e := by
  have := congrArg (fun x : List Tn => x[0]?) h
  simpa [List.getElem?_drop] using this
 simp [rd_T59, List.getD_eq_getElem?_getD, h1]
theorem str_eq {s t : ByteArray} : (s.toList == t.toList) = decide (s = t) := by
 have h : (s.toList = t.toList) ↔ s = t := by
  constructor
  ·intro h; rw [Lib.toList_data, Lib.toList_data] at h; rw [← list_ba s, h, list_ba]
  ·intro h; rw [h]
 by_cases e : s = t
 ·rw [e]; simp
 ·rw [decide_eq_false e, beq_eq_false_iff_ne]
  exact fun x => e (h.1 x)
theorem tn_ne (e e' : Tn) : ((!(e.f0 == e'.f0) || (!(e.f1.toList == e'.f1.toList))) = true) ↔ ¬ e = e' := by
 rw [str_eq]
 cases e with
 | mk a b =>
  cases e' with
  | mk c d =>
   simp only [S59.mk.injEq, not_and, Bool.or_eq_true, Bool.not_eq_true', beq_eq_false_iff_ne, decide_eq_false_iff_not]; by_cases h : a = c
   ·simp [h]
   ·simp [h]
theorem rsame_loop (a b : List Tn) (hab : a.length = b.length) (hl : a.length ≤ 1000000000) : ∀ (r q : List Tn) (i : Nat), a.drop i = r → b.drop i = q → Ev (fun k => marginaliaref03_Same.l0 k a b (i : Int)) (decide (r = q)) := by
 intro r
 induction r with
 | nil =>
  intro q i h h'; have := le_of_nil h
  have hq : q = [] := (by rw [← h']; exact List.drop_of_length_le (by omega))
  subst hq; refine Ev.shift ?_; simp only [marginaliaref03_Same.l0]; exact Ev.neg (by omega) (Ev.now _)
 | cons e r ih =>
  intro q i h h'; have hlt := lt_of_drop h
  cases q with
  | nil => have := le_of_nil h'; omega
  | cons e' q =>
   refine Ev.shift ?_; simp only [marginaliaref03_Same.l0]; rw [rd_tn h, rd_tn h']; refine Ev.pos (by omega) (Ev.pos (by omega) (Ev.pos (by omega) ?_)); by_cases he : e = e'
   ·subst he; refine Ev.neg (fun x => (tn_ne e e).1 x rfl) ?_; rw [w64 (n := (i : Int) + 1) (by omega) (by omega), show decide (e :: r = e :: q) = decide (r = q) by simp]
    exact_mod_cast ih q (i + 1) (drop_next h) (drop_next h')
   ·refine Ev.pos ((tn_ne e e').2 he) ?_; rw [show decide (e :: r = e' :: q) = false from decide_eq_false (fun x => he (by injection x))]; exact Ev.now _
theorem rSame_ev (a b : List Tn) (hl : a.length ≤ 1000000000) : Ev (fun k => marginaliaref03_Same.f k a b) (decide (a = b)) := by
 unfold marginaliaref03_Same.f; by_cases h : a.length = b.length
 ·exact Ev.pos (by omega) (rsame_loop a b h hl a b 0 rfl rfl)
 ·rw [decide_eq_false (fun e => h (by rw [e]))]; exact Ev.neg (by omega) (Ev.now _)
theorem equal_loop (a b : List Tn) (hab : a.length = b.length) (hl : a.length ≤ 1000000000) : ∀ (r q : List Tn) (i : Nat), a.drop i = r → b.drop i = q → Ev (fun k => api_Token_49.l0 k a b (a.length : Int) (i : Int)) (decide (r = q)) := by
 intro r
 induction r with
 | nil =>
  intro q i h h'; have := le_of_nil h
  have hq : q = [] := (by rw [← h']; exact List.drop_of_length_le (by omega))
  subst hq; refine Ev.shift ?_; simp only [api_Token_49.l0]; exact Ev.neg (by omega) (Ev.now _)
 | cons e r ih =>
  intro q i h h'; have hlt := lt_of_drop h
  cases q with
  | nil => have := le_of_nil h'; omega
  | cons e' q =>
   refine Ev.shift ?_; simp only [api_Token_49.l0]; rw [rd_tn h, rd_tn h']; refine Ev.pos (by omega) (Ev.pos (by omega) (Ev.pos (by omega) (Ev.pos (by omega) ?_))); by_cases he : e = e'
   ·subst he; refine Ev.neg (fun x => (tn_ne e e).1 x rfl) ?_; rw [w64 (n := (i : Int) + 1) (by omega) (by omega), show decide (e :: r = e :: q) = decide (r = q) by simp]
    exact_mod_cast ih q (i + 1) (drop_next h) (drop_next h')
   ·refine Ev.pos ((tn_ne e e').2 he) ?_; rw [show decide (e :: r = e' :: q) = false from decide_eq_false (fun x => he (by injection x))]; exact Ev.now _
theorem equal_ev (a b : List Tn) (hl : a.length ≤ 1000000000) : Ev (fun k => api_Token_49.f k a b) (decide (a = b)) := by
 unfold api_Token_49.f; by_cases h : a.length = b.length
 ·exact Ev.pos (by omega) (equal_loop a b h hl a b 0 rfl rfl)
 ·rw [decide_eq_false (fun e => h (by rw [e]))]; exact Ev.neg (by omega) (Ev.now _)
/-! ### Cut -/
/-- The bytes of tokens. -/
def catS (l : List Tn) : Bs := (l.map fun t => t.f1.data.toList).flatten
def tot (l : List Tn) : Nat := (l.map fun t => t.f1.size).sum
theorem catS_cons (t : Tn) (l : List Tn) : catS (t :: l) = t.f1.data.toList ++ catS l := rfl
theorem tot_cons (t : Tn) (l : List Tn) : tot (t :: l) = t.f1.size + tot l := by simp [tot]
theorem tot_append (a b : List Tn) : tot (a ++ b) = tot a + tot b := by simp [tot]
theorem tot_one (t : Tn) : tot [t] = t.f1.size := by simp [tot]
theorem catS_length (l : List Tn) : (catS l).length = tot l := by
 induction l with
 | nil => rfl
 | cons t l ih => rw [catS_cons, List.length_append, isize, ih, tot_cons]
def Fine3 (l : List Tn) : Prop := l.length ≤ 20001 ∧ tot l ≤ 20001
theorem cut3_loop (l : List Tn) (hl : l.length ≤ 9223372036854775807) : ∀ (d i : Nat) (acc : List Tn), 20001 - i = d → i ≤ 20001 → acc.length = i → tot acc ≤ 20001 →
  ∃ r, Fine3 r ∧ Ev (fun k => marginaliaref03_Cut.l0 k l acc (20001 - (tot acc : Int)) (i : Int)) r := by
 intro d
 induction d with
 | zero =>
  intro i acc hd hi ha ht; refine ⟨acc, ⟨by omega, ht⟩, Ev.shift ?_⟩; simp only [marginaliaref03_Cut.l0]; by_cases h : (i : Int) < (l.length : Int)
  ·exact Ev.pos h (Ev.neg (by omega) (Ev.now _))
  ·exact Ev.neg h (Ev.now _)
 | succ d ih =>
  intro i acc hd hi ha ht; by_cases h : (i : Int) < (l.length : Int)
  ·obtain ⟨e, r, hr⟩ : ∃ e r, l.drop i = e :: r := by
    cases q : l.drop i with
    | nil => have := le_of_nil q; omega
    | cons e r => exact ⟨e, r, rfl⟩
   obtain ⟨j, hj, hj1, hj2⟩ : ∃ j : Nat, mn (e.f1.size : Int) (20001 - (tot acc : Int)) = (j : Int) ∧ j ≤ e.f1.size ∧ j + tot acc ≤ 20001 := by
    refine ⟨min e.f1.size (20001 - tot acc), ?_, by omega, by omega⟩; unfold mn
    (repeat' split) <;> omega
   have hz : (e.f1.extract 0 j).size = j := (by rw [ByteArray.size_extract]; omega)
   obtain ⟨r', hf, hE⟩ := ih (i + 1) (acc ++ [⟨e.f0, e.f1.extract 0 j⟩]) (by omega) (by omega) (by simp [ha]) (by rw [tot_append, tot_one]; show tot acc + (e.f1.extract 0 j).size ≤ _; omega); refine ⟨r', hf, Ev.shift ?_⟩; simp only [marginaliaref03_Cut.l0]; rw [rd_tn hr, hj, Int.toNat_natCast, hz]; refine Ev.pos h (Ev.pos (by omega) (Ev.pos (by omega) (Ev.pos (by omega) (Ev.pos (by omega) (Ev.pos (by omega) ?_))))); rw [w64 (n := (i : Int) + 1) (by omega) (by omega), w64 (n := 20001 - (tot acc : Int) - (j : Int)) (by omega) (by omega)]
   have e1 : (20001 - (tot acc : Int) - (j : Int)) = 20001 - (tot (acc ++ [⟨e.f0, e.f1.extract 0 j⟩]) : Int) := by
    rw [tot_append, tot_one]
    show _ = 20001 - ((tot acc + (e.f1.extract 0 j).size : Nat) : Int)
    omega
   rw [e1]; exact hE
  ·refine ⟨acc, ⟨by omega, ht⟩, Ev.shift ?_⟩; simp only [marginaliaref03_Cut.l0]; exact Ev.neg h (Ev.now _)
theorem Cut3_ev (l : List Tn) (hl : l.length ≤ 9223372036854775807) : ∃ r, Fine3 r ∧ Ev (fun k => marginaliaref03_Cut.f k l) r := by
 obtain ⟨r, h1, h2⟩ := cut3_loop l hl 20001 0 [] rfl (by omega) rfl (by simp [tot]); exact ⟨r, h1, h2⟩
/-! ### Text -/
theorem nums_str (l : Bs) : strOfNums (l.map fun b => (b.toNat : Int)) = ba l := by
 apply ba_eq
 rw [strOfNums_data, List.map_map]
 conv => rhs; rw [← List.map_id l]
 apply List.map_congr_left
 intro c _
 simp
theorem rtext_l1 (l : List Tn) (hl : l.length ≤ 100000) (ht : tot l ≤ 100000) : ∀ (r : List Tn) (i : Nat) (acc : Bs), l.drop i = r → acc.length + tot r ≤ 100000 → Ev (fun k => marginaliaref03_Text.l1 k l (acc.map fun b => (b.toNat : Int)) (i : Int)) (ba (acc ++ catS r)) := by
 intro r
 induction r with
 | nil =>
  intro i acc h ha; have := le_of_nil h; refine Ev.shift ?_; simp only [marginaliaref03_Text.l1]; refine Ev.neg (by omega) ?_; rw [nums_str, show acc ++ catS [] = acc from List.append_nil _]; exact Ev.now _
 | cons e r ih =>
  intro i acc h ha; have hlt := lt_of_drop h; rw [tot_cons] at ha; refine Ev.shift ?_; simp only [marginaliaref03_Text.l1]; rw [rd_tn h]; refine Ev.pos (by omega) (Ev.pos (by omega) (Ev.pos (by rw [List.length_map]; omega) ?_))
  have e1 : (acc.map fun b => (b.toNat : Int)) ++ bytesOf e.f1 = (acc ++ e.f1.data.toList).map fun b => (b.toNat : Int) := (by rw [List.map_append]; rfl)
  rw [e1, w64 (n := (i : Int) + 1) (by omega) (by omega)]; have := ih (i + 1) (acc ++ e.f1.data.toList) (drop_next h) (by rw [List.length_append, isize]; omega); rw [List.append_assoc, ← catS_cons] at this
  exact_mod_cast this
theorem rtext_l0 (l : List Tn) (hl : l.length ≤ 100000) (ht : tot l ≤ 100000) : ∀ (r : List Tn) (i n : Nat), l.drop i = r → n + tot r ≤ 100000 → Ev (fun k => marginaliaref03_Text.l0 k l n (i : Int)) (ba (catS l)) := by
 intro r
 induction r with
 | nil =>
  intro i n h ha; have := le_of_nil h; refine Ev.shift ?_; simp only [marginaliaref03_Text.l0]; refine Ev.neg (by omega) (Ev.pos (by omega) ?_); have := rtext_l1 l hl ht l 0 [] rfl (by simpa using ht); exact this
 | cons e r ih =>
  intro i n h ha; have hlt := lt_of_drop h; rw [tot_cons] at ha; refine Ev.shift ?_; simp only [marginaliaref03_Text.l0]; rw [rd_tn h]; refine Ev.pos (by omega) (Ev.pos (by omega) (Ev.pos (by omega) ?_)); rw [w64 (n := (i : Int) + 1) (by omega) (by omega)]
  exact_mod_cast ih (i + 1) (n + e.f1.size) (drop_next h) (by omega)
theorem rText_ev (l : List Tn) (hf : Fine3 l) : Ev (fun k => marginaliaref03_Text.f k l) (ba (catS l)) :=
 rtext_l0 l (by have := hf.1; omega) (by have := hf.2; omega) l 0 0 rfl (by have := hf.2; omega)
theorem joined_go : ∀ (l : List Tn) (acc : Bs), (acc.length + tot l ≤ 20000 → token_joined.go l acc = some (ba (acc ++ catS l), true)) ∧ (¬ acc.length + tot l ≤ 20000 → ∃ s, token_joined.go l acc = some (s, false))
 | [], acc => by
  rw [token_joined.go, show acc ++ catS [] = acc from List.append_nil _]; refine ⟨fun h => ?_, fun h => ⟨⟨acc.toArray⟩, ?_⟩⟩
  ·rw [show decide ((acc.length : Int) ≤ 20000) = true from decide_eq_true (by simp [tot] at h; omega)]; rfl
  ·rw [show decide ((acc.length : Int) ≤ 20000) = false from decide_eq_false (by simp [tot] at h; omega)]
 | t :: r, acc => by
  rw [token_joined.go, tot_cons]; obtain ⟨i1, i2⟩ := joined_go r (acc ++ t.f1.data.toList); rw [List.length_append, isize] at i1 i2; by_cases h1 : (acc.length : Int) > 20000
  ·rw [if_pos h1]; exact ⟨fun h => by omega, fun _ => ⟨_, rfl⟩⟩
  ·rw [if_neg h1]; by_cases h2 : (t.f1.size : Int) > 20000
   ·rw [if_pos h2]; exact ⟨fun h => by omega, fun _ => ⟨_, rfl⟩⟩
   ·rw [if_neg h2]; refine ⟨fun h => ?_, fun h => i2 (by omega)⟩; rw [i1 (by omega), catS_cons, List.append_assoc]
/-- The error of tokens. -/
def chkT (l : List Tn) : Int := if tot l > 20000 ∨ l.length > 20000 then 3 else if lexS (catS l) = l then 0 else 4
theorem chkT_ok {l : List Tn} (h : chkT l = 0) : tot l ≤ 20000 ∧ l.length ≤ 20000 ∧ lexS (catS l) = l := by
 unfold chkT at h
 split at h
 ·cases h
 ·split at h
  ·rename_i h1 h2
   exact ⟨by omega, by omega, h2⟩
  ·cases h
theorem ba_data (l : Bs) : (ba l).data.toList = l := ba_list l
theorem lexS_length (l : Bs) : (lexS l).length ≤ l.length := by
 rw [lexS, List.length_map]
 have : ∀ (m : Nat) (l : Bs), l.length ≤ m → (lex l).length ≤ l.length := by
  intro m
  induction m with
  | zero =>
   intro l h; obtain rfl : l = [] := List.eq_nil_of_length_eq_zero (by omega); exact Nat.le_refl _
  | succ m ih =>
   intro l h
   cases l with
   | nil => exact Nat.le_refl _
   | cons c r =>
    have h0 := nx_pos c r; have h1 := ih ((c :: r).drop (nx (c :: r)).2) (by rw [List.length_drop]; simp only [List.length_cons] at *; omega); rw [List.length_drop] at h1; rw [lex_cons, List.length_cons]; simp only [List.length_cons] at *
    omega
 exact this l.length l (Nat.le_refl _)
theorem Text_ev (l : List Tn) (hf : Fine3 l) : Ev (fun k => token_Text.f k l) (if chkT l = 0 then ba (catS l) else ⟨#[]⟩, chkT l) := by
 have h1 := hf.1; unfold token_Text.f token_joined.f; obtain ⟨j1, j2⟩ := joined_go l []; rw [List.length_nil, Nat.zero_add] at j1 j2; by_cases ht : tot l ≤ 20000
 ·refine Ev.bind1 (j1 ht) (Ev.pos rfl (Ev.shift ?_)); simp only [token_Text.j0, List.nil_append]; by_cases hn : (l.length : Int) > 20000
  ·have hc : chkT l = 3 := if_pos (by omega); rw [hc]; exact Ev.pos (decide_eq_true hn) (Ev.now _)
  ·refine Ev.neg (by rw [decide_eq_false hn]; decide) ?_
   have hsz : (ba (catS l)).size = tot l := (by rw [ba_size, catS_length])
   have hL := Lex_ev (ba (catS l)) (by omega); rw [if_neg (by omega), ba_data] at hL; refine Ev.bind hL (Ev.bind (equal_ev (lexS (catS l)) l (by have := lexS_length (catS l); rw [catS_length] at this; omega)) ?_); have hc : chkT l = if lexS (catS l) = l then 0 else 4 := if_neg (by omega); rw [hc]; by_cases he : lexS (catS l) = l
   ·rw [if_pos he]; exact Ev.pos (decide_eq_true he) (Ev.now _)
   ·rw [if_neg he]; exact Ev.neg (by rw [decide_eq_false he]; decide) (Ev.now _)
 ·obtain ⟨s, hs⟩ := j2 ht; have hc : chkT l = 3 := if_pos (by omega); rw [hc]; refine Ev.bind1 hs (Ev.neg (show ¬ (false = true) by decide) (Ev.shift ?_)); simp only [token_Text.j0]; exact Ev.pos trivial (Ev.now _)
theorem rcheck3_j1 (l : List Tn) (hf : Fine3 l) (b : Bool) : Ev (fun k => marginaliaref03_Check.j1 k l b) (if b = true then 3 else if lexS (catS l) = l then 0 else 4) := by
 have h2 := hf.2; refine Ev.shift ?_; simp only [marginaliaref03_Check.j1]
 cases b with
 | true => exact Ev.pos rfl (Ev.now _)
 | false =>
  rw [if_neg (by decide)]
  have hsz : (ba (catS l)).size = tot l := (by rw [ba_size, catS_length])
  have hL := rLex_ev (ba (catS l)) (by omega); rw [ba_data] at hL; refine Ev.neg (by decide) (Ev.bind (rText_ev l hf) (Ev.bind hL (Ev.bind (rSame_ev (lexS (catS l)) l (by have := lexS_length (catS l); rw [catS_length] at this; omega)) ?_))); by_cases he : lexS (catS l) = l
  ·rw [if_pos he]; exact Ev.pos (decide_eq_true he) (Ev.now _)
  ·rw [if_neg he]; exact Ev.neg (by rw [decide_eq_false he]; decide) (Ev.now _)
theorem rcheck3_loop (l : List Tn) (hf : Fine3 l) : ∀ (r : List Tn) (i n : Nat), l.drop i = r → n + tot r = tot l → Ev (fun k => marginaliaref03_Check.l0 k l (n : Int) (i : Int)) (chkT l) := by
 have h1 := hf.1; have h2 := hf.2; intro r
 induction r with
 | nil =>
  intro i n h ha; have := le_of_nil h; refine Ev.shift ?_; simp only [marginaliaref03_Check.l0]; refine Ev.neg (by omega) ?_
  have hn : n = tot l := (by simpa [tot] using ha)
  subst hn; by_cases ht : (tot l : Int) > 20000
  ·have := rcheck3_j1 l hf true; rw [if_pos rfl] at this; rw [show chkT l = 3 from if_pos (by omega)]; exact Ev.pos ht this
  ·have := rcheck3_j1 l hf (decide ((l.length : Int) > 20000)); refine Ev.neg ht ?_; by_cases hn : (l.length : Int) > 20000
   ·rw [if_pos (decide_eq_true hn)] at this; rw [show chkT l = 3 from if_pos (by omega)]; exact this
   ·rw [if_neg (by rw [decide_eq_false hn]; decide)] at this; rw [show chkT l = if lexS (catS l) = l then 0 else 4 from if_neg (by omega)]; exact this
 | cons e r ih =>
  intro i n h ha; have hlt := lt_of_drop h; rw [tot_cons] at ha; refine Ev.shift ?_; simp only [marginaliaref03_Check.l0]; rw [rd_tn h]; refine Ev.pos (by omega) (Ev.pos (by omega) ?_); rw [w64 (n := (i : Int) + 1) (by omega) (by omega), w64 (n := (n : Int) + (e.f1.size : Int)) (by omega) (by omega)]
  exact_mod_cast ih (i + 1) (n + e.f1.size) (drop_next h) (by omega)
theorem rCheck3_ev (l : List Tn) (hf : Fine3 l) : Ev (fun k => marginaliaref03_Check.f k l) (chkT l) := rcheck3_loop l hf l 0 0 rfl (by omega)
/-- The error of Relex. -/
def chk4 (l : List Tn) (m : List Ed) : Int := if chkT l = 0 then chk (tot l : Nat) m else chkT l
theorem rCheck4_ev (l : List Tn) (m : List Ed) (hf : Fine3 l) (hm : Fit m) : Ev (fun k => marginaliaref04_Check.f k l m) (chk4 l m) := by
 have h2 := hf.2; unfold marginaliaref04_Check.f chk4; refine Ev.bind (rCheck3_ev l hf) ?_; by_cases h : chkT l = 0
 ·rw [if_pos h]
  have hsz : (ba (catS l)).size = tot l := (by rw [ba_size, catS_length])
  have hc := rcheck_ev (ba (catS l)) m (by omega) hm; rw [hsz] at hc; exact Ev.pos h (Ev.bind (rText_ev l hf) (Ev.bind hc (Ev.now _)))
 ·rw [if_neg h]; exact Ev.neg h (Ev.now _)
end Go.Proofs.Ytahcpappailjgaa.P

set_option linter.unusedVariables false
set_option linter.unusedSimpArgs false
namespace Go.Proofs.Ytahcpappailjgaa.P
open Go.RowKit Go.Proofs.YtahcpappailjgaaW.PrintWords Go.Proofs.YtahcpappailjgaaW.PrintLast Go.Proofs.YtahcpappailjgaaW.PrintMore
/-- Where the token i begins. -/
def pf (l : List Tn) (i : Nat) : Nat := tot (l.take i)
theorem pf_succ (l : List Tn) (i : Nat) (h : i < l.length) : pf l (i + 1) = pf l i + (l[i]).f1.size := by
 unfold pf; rw [List.take_succ_eq_append_getElem h, tot_append, tot_one]
theorem pf_le (l : List Tn) {i j : Nat} (h : i ≤ j) : pf l i ≤ pf l j := by
 unfold pf
 obtain ⟨d, rfl⟩ : ∃ d, j = i + d := ⟨j - i, by omega⟩
 rw [List.take_add, tot_append]
 omega
theorem pf_all (l : List Tn) {i : Nat} (h : l.length ≤ i) : pf l i = tot l := by unfold pf; rw [List.take_of_length_le h]
theorem pf_tot (l : List Tn) (i : Nat) : pf l i ≤ tot l := by
 rw [← pf_all l (Nat.le_refl _)]; by_cases h : i ≤ l.length
 ·exact pf_le l h
 ·rw [pf_all l (by omega)]; rw [pf_all l (Nat.le_refl _)]; exact Nat.le_refl _
/-- The places at which tokens begin, and the end of the last one. -/
def IsEnds (e : List Int) (l : List Tn) : Prop := e.length = l.length + 1 ∧ ∀ i, i ≤ l.length → e[i]? = some (pf l i : Int)
theorem IsEnds.val {e : List Int} {l : List Tn} (h : IsEnds e l) (i : Nat) (hi : i ≤ l.length) : rd e (i : Int) = (pf l i : Int) := by
 simp [rd, List.getD_eq_getElem?_getD, h.2 i hi]
theorem ends_loop (l : List Tn) (hl : l.length ≤ 100000) (ht : tot l ≤ 100000) : ∀ (d i : Nat) (acc : List Int), i + d = l.length → acc.length = i + 1 → (∀ j, j ≤ i → acc[j]? = some (pf l j : Int)) →
  ∃ e, IsEnds e l ∧ Ev (fun k => relex_ends.l0 k acc (pf l i : Int) l (l.length : Int) (i : Int)) e := by
 intro d
 induction d with
 | zero =>
  intro i acc hi ha hj; refine ⟨acc, ⟨by omega, fun j h => hj j (by omega)⟩, Ev.shift ?_⟩; simp only [relex_ends.l0]; exact Ev.neg (by omega) (Ev.now _)
 | succ d ih =>
  intro i acc hi ha hj
  have hlt : i < l.length := (by omega)
  have hs := pf_succ l i hlt; have hp := pf_tot l (i + 1)
  obtain ⟨e, he, hE⟩ := ih (i + 1) (acc ++ [(pf l (i + 1) : Int)]) (by omega) (by simp [ha]) (by
   intro j hj'; by_cases h : j ≤ i
   ·rw [List.getElem?_append_left (by omega)]; exact hj j h
   ·obtain rfl : j = i + 1 := (by omega)
    rw [List.getElem?_append_right (by omega), ha]
    simp)
  refine ⟨e, he, Ev.shift ?_⟩; simp only [relex_ends.l0]; have hr : rd_T59 l (i : Int) = l[i] := rd_tn (List.drop_eq_getElem_cons hlt); rw [hr]; refine Ev.pos (by omega) (Ev.pos (by omega) (Ev.pos (by omega) (Ev.pos (by omega) ?_))); rw [w64 (n := (i : Int) + 1) (by omega) (by omega), w64 (n := (pf l i : Int) + ((l[i]).f1.size : Int)) (by omega) (by omega), show (pf l i : Int) + ((l[i]).f1.size : Int) = (pf l (i + 1) : Int) by omega]; exact hE
theorem ends_ev (l : List Tn) (hl : l.length ≤ 100000) (ht : tot l ≤ 100000) : ∃ e, IsEnds e l ∧ Ev (fun k => relex_ends.f k l) e := by
 have := ends_loop l hl ht l.length 0 [0] (by omega) rfl (by
  intro j hj
  obtain rfl : j = 0 := (by omega)
  simp [pf, tot])
 simpa [pf, tot, relex_ends.f] using this
/-! ### the search -/
theorem less_eq (a b : Int) : cmp_Less_int.f a b = some (decide (a < b)) := by
 unfold cmp_Less_int.f cmp_isNaN_int.f
 simp
theorem bs_loop (e : List Int) (x : Int) (hz : e.length ≤ 1000000) : ∀ (d lo hi : Nat), hi - lo ≤ d → lo ≤ hi → hi ≤ e.length → (∀ (i : Nat) (v : Int), i < lo → e[i]? = some v → v < x) → (∀ (i : Nat) (v : Int), hi ≤ i → e[i]? = some v → x ≤ v) → (∀ (i j : Nat) (v u : Int), i ≤ j → e[i]? = some v → e[j]? = some u → v ≤ u) →
  ∃ r : Nat, r ≤ e.length ∧ (∀ (i : Nat) (v : Int), i < r → e[i]? = some v → v < x) ∧ (∀ (i : Nat) (v : Int), r ≤ i → e[i]? = some v → x ≤ v) ∧ Ev (fun k => slices_BinarySearch_int_int.l0 k e x (e.length : Int) (lo : Int) (hi : Int)) ((r : Int), decide (e[r]? = some x)) := by
 intro d
 induction d with
 | zero =>
  intro lo hi hd hlo hhi h1 h2 hm
  obtain rfl : lo = hi := (by omega)
  refine ⟨lo, hhi, h1, h2, Ev.shift ?_⟩; simp only [slices_BinarySearch_int_int.l0]; refine Ev.neg (by omega) ?_; by_cases h : lo < e.length
  ·have he : e[lo]? = some e[lo] := List.getElem?_eq_getElem h
   have hr : rd e (lo : Int) = e[lo] := (by simp [rd, List.getD_eq_getElem?_getD, he])
   refine Ev.pos (by omega) (Ev.pos (by omega) (Ev.pos (by omega) ?_)); rw [hr, he]; by_cases hx : e[lo] = x
   ·rw [show decide (some e[lo] = some x) = true from decide_eq_true (by rw [hx])]; exact Ev.pos hx (Ev.now _)
   ·rw [show decide (some e[lo] = some x) = false from decide_eq_false (fun q => hx (by injection q))]; refine Ev.neg hx (Ev.bind1 (a := false) (by unfold slices_isNaN_int.f; simp) (Ev.neg (by decide) (Ev.now _)))
  ·rw [show decide (e[lo]? = some x) = false from decide_eq_false (by rw [List.getElem?_eq_none (by omega)]; intro q; cases q)]; exact Ev.neg (by omega) (Ev.now _)
 | succ d ih =>
  intro lo hi hd hlo hhi h1 h2 hm; by_cases hlt : lo < hi
  ·obtain ⟨m, hmid, hm1, hm2⟩ : ∃ m : Nat, wrap64 (IntKind.u64.wrap (wrap64 ((lo : Int) + (hi : Int))) / 2) = (m : Int) ∧ lo ≤ m ∧ m < hi := by
    refine ⟨(lo + hi) / 2, ?_, by omega, by omega⟩; rw [w64 (n := (lo : Int) + (hi : Int)) (by omega) (by omega), IntWalk.u64_in _ (by omega), w64 (by omega) (by omega)]
    omega
   have hml : m < e.length := (by omega)
   have he : e[m]? = some e[m] := List.getElem?_eq_getElem hml
   have hr : rd e (m : Int) = e[m] := (by simp [rd, List.getD_eq_getElem?_getD, he])
   by_cases hx : e[m] < x
   ·obtain ⟨r, r1, r2, r3, hE⟩ := ih (m + 1) hi (by omega) (by omega) hhi (fun i v hi' hv => by
     have := hm i m v e[m] (by omega) hv he
     omega) h2 hm
    refine ⟨r, r1, r2, r3, Ev.shift ?_⟩; simp only [slices_BinarySearch_int_int.l0]; rw [hmid, hr]; refine Ev.pos (by omega) (Ev.pos (by omega) (Ev.pos (by omega) (Ev.bind1 (less_eq _ _) (Ev.pos (decide_eq_true hx) ?_)))); rw [w64 (n := (m : Int) + 1) (by omega) (by omega)]; exact hE
   ·obtain ⟨r, r1, r2, r3, hE⟩ := ih lo m (by omega) (by omega) (by omega) h1 (fun i v hi' hv => by
     have := hm m i e[m] v hi' he hv
     omega) hm
    refine ⟨r, r1, r2, r3, Ev.shift ?_⟩; simp only [slices_BinarySearch_int_int.l0]; rw [hmid, hr]; refine Ev.pos (by omega) (Ev.pos (by omega) (Ev.pos (by omega) (Ev.bind1 (less_eq _ _) (Ev.neg (by rw [decide_eq_false hx]; decide) ?_)))); exact hE
  ·exact ih lo hi (by omega) hlo hhi h1 h2 hm
/-- Tokens none of which is empty. -/
def Solid (l : List Tn) : Prop := ∀ t ∈ l, 0 < t.f1.size
theorem Solid.lt {l : List Tn} (h : Solid l) {i : Nat} (hi : i < l.length) : pf l i < pf l (i + 1) := by
 rw [pf_succ l i hi]; have := h l[i] (List.getElem_mem hi)
 omega
theorem holding_ev (l : List Tn) (e : List Int) (hl : l.length ≤ 100000) (ht : tot l ≤ 100000) (he : IsEnds e l) (hs : Solid l) (n : Nat) (hn : n < tot l) :
  ∃ h : Nat, h < l.length ∧ pf l h ≤ n ∧ n < pf l (h + 1) ∧ Ev (fun k => relex_holding.f k e (n : Int)) (h : Int) := by
 have hz : e.length = l.length + 1 := he.1
 have hval : ∀ i v, e[i]? = some v → i ≤ l.length ∧ v = (pf l i : Int) := by
  intro i v h; have hi : i < e.length := (List.getElem?_eq_some_iff.1 h).1; have := he.2 i (by omega); rw [h] at this; injection this with this; exact ⟨by omega, this⟩
 obtain ⟨r, r1, r2, r3, hE⟩ := bs_loop e (n : Int) (by omega) e.length 0 e.length (by omega) (by omega) (Nat.le_refl _) (fun i v h => by omega) (fun i v h hv => by have := (List.getElem?_eq_some_iff.1 hv).1; omega) (fun i j v u hij hv hu => by
  have h1 := hval i v hv; have h2 := hval j u hu; have := pf_le l hij
  omega)
 have hB : Ev (fun k => slices_BinarySearch_int_int.f k e (n : Int)) ((r : Int), decide (e[r]? = some (n : Int))) := hE; have hlast := he.2 l.length (Nat.le_refl _); rw [pf_all l (Nat.le_refl _)] at hlast
 have hrl : r ≤ l.length := by
  rcases Nat.lt_or_ge l.length r with h | h
  ·have := r2 l.length _ h hlast
   omega
  ·exact h
 have hr := he.2 r hrl; have hge := r3 r _ (Nat.le_refl _) hr; unfold relex_holding.f; by_cases hx : e[r]? = some (n : Int)
 ·rw [hx] at hr; injection hr with hr
  have hlt : r < l.length := by
   rcases Nat.lt_or_ge r l.length with h | h
   ·exact h
   ·have := pf_all l h; omega
  refine ⟨r, hlt, by omega, by have := hs.lt hlt; omega, Ev.bind hB (Ev.pos (decide_eq_true hx) (Ev.now _))⟩
 ·have hne : (pf l r : Int) ≠ (n : Int) := fun q => hx (by rw [hr, q])
  have h0 : 0 < r := by
   rcases Nat.eq_zero_or_pos r with h | h
   ·subst h
    have : pf l 0 = 0 := (by simp [pf, tot])
    omega
   ·exact h
  have hp := r2 (r - 1) _ (by omega) (he.2 (r - 1) (by omega)); refine ⟨r - 1, by omega, by omega, by rw [show r - 1 + 1 = r by omega]; omega, Ev.bind hB (Ev.neg (by rw [decide_eq_false hx]; exact Bool.false_ne_true) ?_)⟩; simp only; rw [w64 (by omega) (by omega), show (r : Int) - 1 = ((r - 1 : Nat) : Int) by omega]; exact Ev.now _
/-! ### line feeds -/
theorem last_nl (s : ByteArray) (F : Nat) (hF : F ≤ s.size) :
  (Lib.lastIndexByte (s.extract 0 F) 10 = -1 ∧ ∀ j, j < F → s.data.toList[j]? ≠ some 10) ∨ (∃ n : Nat, n < F ∧ Lib.lastIndexByte (s.extract 0 F) 10 = (n : Int) ∧ s.data.toList[n]? = some 10 ∧ ∀ j, n < j → j < F → s.data.toList[j]? ≠ some 10) := by
 have hz : (s.extract 0 F).size = F := (by rw [ByteArray.size_extract]; omega)
 have hB : ∀ j, j < F → ((((s.extract 0 F).data[j]!).toNat : Int) = 10 ↔ s.data.toList[j]? = some 10) := by
  intro j hj
  have h1 : j < s.data.toList.length := (by rw [Ut.size_data]; omega)
  have h2 : j < (s.extract 0 F).data.size := by
   have : (s.extract 0 F).data.size = (s.extract 0 F).size := rfl
   omega
  have e : (s.extract 0 F).data[j]! = s.data.toList[j] := by
   rw [getElem!_pos _ j h2]
   simp [ByteArray.data_extract]
  rw [e, List.getElem?_eq_getElem h1]
  constructor
  ·intro h; rw [(byte_int s.data.toList[j] 10 (by decide)).1 h]; rfl
  ·intro h; injection h with h; rw [h]; rfl
 have h := Lib.lastIndexByte_spec (s.extract 0 F) 10; rw [hz] at h
 rcases h with ⟨h1, h2⟩ | ⟨i, h1, h2, h3, h4⟩
 ·exact .inl ⟨h1, fun j hj e => h2 j hj ((hB j hj).2 e)⟩
 ·exact .inr ⟨i, h1, h2, (hB i h1).1 h3, fun j hj hj2 e => h4 j hj hj2 ((hB j hj2).2 e)⟩
theorem idx_nl : ∀ (l : Bs), (Lib.indexByte l 10 = -1 ∧ ∀ j : Nat, l[j]? ≠ some 10) ∨ (∃ n : Nat, Lib.indexByte l 10 = (n : Int) ∧ l[n]? = some 10 ∧ ∀ j, j < n → l[j]? ≠ some 10)
 | [] => .inl ⟨rfl, fun j e => by simp at e⟩
 | c :: r => by
  rw [Lib.indexByte]; by_cases hc : c = 10
  ·right
   rw [if_pos (by rw [hc]; rfl)]; exact ⟨0, rfl, by rw [hc]; rfl, fun j hj => by omega⟩
  ·rw [if_neg (by simpa using hc)]
   rcases idx_nl r with ⟨e, hn⟩ | ⟨n, e, hn, hj⟩
   ·left
    rw [e]; refine ⟨rfl, fun j q => ?_⟩
    cases j with
    | zero => simp at q; exact hc q
    | succ j => exact hn j (by simpa using q)
   ·right
    rw [e]; have : ((n : Int) == -1) = false := beq_eq_false_iff_ne.2 (by omega); refine ⟨n + 1, ?_, by simpa using hn, fun j hjn q => ?_⟩
    ·simp only [this]
     simp
    ·cases j with
     | zero => simp at q; exact hc q
     | succ j => exact hj j (by omega) (by simpa using q)
theorem index_nl (s : ByteArray) (T : Nat) (hT : T ≤ s.size) :
  (strings_IndexByte.f (s.extract T s.size) 10 = some (-1) ∧ ∀ j, T ≤ j → s.data.toList[j]? ≠ some 10) ∨ (∃ n : Nat, T ≤ n ∧ n < s.size ∧ strings_IndexByte.f (s.extract T s.size) 10 = some ((n : Int) - (T : Int)) ∧ s.data.toList[n]? = some 10 ∧ ∀ j, T ≤ j → j < n → s.data.toList[j]? ≠ some 10) := by
 have e0 : strings_IndexByte.f (s.extract T s.size) 10 = some (Lib.indexByte (s.data.toList.drop T) 10) := by
  unfold strings_IndexByte.f; rw [ext_suf]; rfl
 rw [e0]
 rcases idx_nl (s.data.toList.drop T) with ⟨e, hn⟩ | ⟨n, e, hn, hj⟩
 ·left
  rw [e]; refine ⟨rfl, fun j hj q => hn (j - T) ?_⟩; rw [List.getElem?_drop, show T + (j - T) = j by omega]; exact q
 ·right
  rw [List.getElem?_drop] at hn; have hlt := (List.getElem?_eq_some_iff.1 hn).1; rw [isize] at hlt; rw [e]; refine ⟨T + n, by omega, hlt, by congr 1; omega, hn, fun j h1 h2 q => hj (j - T) (by omega) ?_⟩; rw [List.getElem?_drop, show T + (j - T) = j by omega]; exact q
end Go.Proofs.Ytahcpappailjgaa.P

set_option linter.unusedVariables false
set_option linter.unusedSimpArgs false
namespace Go.Proofs.Ytahcpappailjgaa.P
open Go.RowKit Go.Proofs.YtahcpappailjgaaW.PrintWords Go.Proofs.YtahcpappailjgaaW.PrintLast Go.Proofs.YtahcpappailjgaaW.PrintMore
theorem cutS_end (s : ByteArray) (a : Int) : cutS s a s.size = s.data.toList.drop a.toNat := by
 rw [cutS_eq, Int.toNat_natCast, List.take_of_length_le (by rw [isize]; exact Nat.le_refl _)]
theorem app_end (s : ByteArray) : ∀ (r : List Ed) (e : Ed) (p : Int), sp s.size p (e :: r) = true → 0 ≤ p → ∃ (M : Bs) (f : Ed), (e :: r).getLast? = some f ∧ app s p (e :: r) = cutS s p e.f0 ++ (M ++ s.data.toList.drop f.f1.toNat) ∧ e.f0 ≤ f.f1 ∧ f.f1 ≤ s.size
 | [], e, p, h, h0 => by
  obtain ⟨h1, h2, h3, h4⟩ := sp_cons h; refine ⟨e.f2.data.toList, e, rfl, ?_, h2, h3⟩; rw [app, app, cutS_end, List.append_assoc]
 | e' :: r, e, p, h, h0 => by
  obtain ⟨h1, h2, h3, h4⟩ := sp_cons h; obtain ⟨M, f, hf, ha, hf1, hf2⟩ := app_end s r e' e.f1 h4 (by omega); obtain ⟨g1, _⟩ := sp_cons h4; refine ⟨e.f2.data.toList ++ (cutS s e.f1 e'.f0 ++ M), f, by rw [List.getLast?_cons_cons]; exact hf, ?_, by omega, hf2⟩; rw [app, ha]; simp only [List.append_assoc]
theorem app_split (s : ByteArray) (e : Ed) (r : List Ed) (h : sp s.size 0 (e :: r) = true) : ∃ (M : Bs) (f : Ed), (e :: r).getLast? = some f ∧ app s 0 (e :: r) = s.data.toList.take e.f0.toNat ++ (M ++ s.data.toList.drop f.f1.toNat) ∧ 0 ≤ e.f0 ∧ e.f0 ≤ f.f1 ∧ f.f1 ≤ s.size := by
 obtain ⟨M, f, hf, ha, h1, h2⟩ := app_end s r e 0 h (Int.le_refl _); obtain ⟨g1, _⟩ := sp_cons h; refine ⟨M, f, hf, ?_, g1, h1, h2⟩; rw [ha, cutS_eq]
 simp
theorem split_at {α : Type} {l : List α} {i : Nat} (h : i < l.length) : l = l.take i ++ l[i] :: l.drop (i + 1) := by
 rw [List.getElem_cons_drop, List.take_append_drop]
theorem at_split {α : Type} {l : List α} {n : Nat} {x : α} (h : l[n]? = some x) : l = l.take n ++ x :: l.drop (n + 1) := by
 obtain ⟨hn, e⟩ := List.getElem?_eq_some_iff.1 h; subst e; exact split_at hn
/-! ### tokens of both forms -/
theorem map_un (l : List Tk) : (l.map mkS).map unS = l := by
 rw [List.map_map]
 conv => rhs; rw [← List.map_id l]
 exact List.map_congr_left (fun t _ => un_mk t)
theorem map_mk (l : List Tn) : (l.map unS).map mkS = l := by
 rw [List.map_map]
 conv => rhs; rw [← List.map_id l]
 exact List.map_congr_left (fun t _ => mk_un t)
theorem lex_of (l : List Tn) (h : lexS (catS l) = l) : lex (catS l) = l.map unS := by
 conv => rhs; rw [← h]
 rw [lexS, map_un]
theorem cat_un (l : List Tn) : cat (l.map unS) = catS l := by
 unfold cat catS; rw [List.map_map]; rfl
theorem cat_pf (l : List Tn) (i : Nat) : (cat ((l.take i).map unS)).length = pf l i := by rw [cat_un, catS_length]; rfl
theorem cat_suf (l : List Tn) (i : Nat) : (cat ((l.drop i).map unS)).length = tot l - pf l i := by
 rw [cat_un, catS_length]
 have : tot l = tot (l.take i) + tot (l.drop i) := (by rw [← tot_append, List.take_append_drop])
 unfold pf
 omega
theorem solid_of (l : List Tn) (h : lexS (catS l) = l) : Solid l := by
 intro t ht; rw [← h] at ht; obtain ⟨u, hu, rfl⟩ := List.mem_map.1 ht; have := lex_pos _ u hu
 show 0 < (ba u.2).size
 rw [ba_size]
 cases e : u.2 with
 | nil => exact absurd e this
 | cons c r => simp
theorem split_un (l : List Tn) (i : Nat) (h : i < l.length) : l.map unS = (l.take i).map unS ++ unS l[i] :: (l.drop (i + 1)).map unS := by
 conv => lhs; rw [split_at h]
 rw [List.map_append, List.map_cons]
theorem cut_nl {T : Bs} {n : Nat} (h : T[n]? = some 10) : T = T.take n ++ 10 :: T.drop (n + 1) := at_split h
theorem front_at (l : List Tn) (h : lexS (catS l) = l) (i n F : Nat) (hi : i < l.length) (hn : (catS l)[n]? = some 10) (hF : n < F) (h1 : pf l i ≤ n) (h2 : n < pf l (i + 1)) : Front ((catS l).take F) ((l.take i).map unS) := by
 have hlt := (List.getElem?_eq_some_iff.1 hn).1
 have hl : ((catS l).take n).length = n := (by rw [List.length_take]; omega)
 have := front_of (T := catS l) (P := (catS l).take n) (Z := (catS l).drop (n + 1)) (u := (l.take i).map unS) (t := unS l[i]) (v := (l.drop (i + 1)).map unS) (by rw [lex_of l h]; exact split_un l i hi) (cut_nl hn) (by rw [cat_pf, hl]; exact h1)
  (by rw [cat_pf, hl]; have := pf_succ l i hi; have e : (unS l[i]).2.length = (l[i]).f1.size := isize _; omega) (((catS l).drop (n + 1)).take (F - (n + 1)))
 have e : (catS l).take F = (catS l).take n ++ 10 :: ((catS l).drop (n + 1)).take (F - (n + 1)) := by
  conv => lhs; rw [cut_nl hn]
  rw [List.take_append, hl, List.take_of_length_le (by omega : ((catS l).take n).length ≤ F)]
  congr 1
  rw [show F - n = (F - (n + 1)) + 1 by omega, List.take_succ_cons]
 rw [e]; exact this
theorem back_at (l : List Tn) (h : lexS (catS l) = l) (i n To : Nat) (hi : i < l.length) (hn : (catS l)[n]? = some 10) (hT : To ≤ n) (h1 : pf l i ≤ n) (h2 : n < pf l (i + 1)) : Back ((catS l).drop To) ((l.drop (i + 1)).map unS) := by
 have hlt := (List.getElem?_eq_some_iff.1 hn).1
 have hl : ((catS l).take n).length = n := (by rw [List.length_take]; omega)
 have := back_of (T := catS l) (P := (catS l).take n) (Z := (catS l).drop (n + 1)) (u := (l.take i).map unS) (t := unS l[i]) (v := (l.drop (i + 1)).map unS) (by rw [lex_of l h]; exact split_un l i hi) (cut_nl hn) (by rw [cat_pf, hl]; exact h1)
  (by rw [cat_pf, hl]; have := pf_succ l i hi; have e : (unS l[i]).2.length = (l[i]).f1.size := isize _; omega) (((catS l).take n).drop To)
 have e : (catS l).drop To = ((catS l).take n).drop To ++ 10 :: (catS l).drop (n + 1) := by
  conv => lhs; rw [cut_nl hn]
  rw [List.drop_append_of_le_length (by omega)]
 rw [e]; exact this
/-- What Relex returns. -/
structure RxOk (l : List Tn) (m : List Ed) (n : List Tn) (a b : Nat) : Prop where
 toks : n = lexS (app (ba (catS l)) 0 m)
 le1 : a + b ≤ l.length
 le2 : a + b ≤ n.length
 pre : n.take a = l.take a
 suf : n.drop (n.length - b) = l.drop (l.length - b)
 nil : m = [] → a = l.length ∧ b = 0
 fst : ∀ e r, m = e :: r → ∀ j : Nat, (j : Int) < e.f0 → (catS l)[j]? = some 10 → j < pf l (a + 1)
 lst : ∀ e, m = [e] → ∀ j : Nat, e.f1 ≤ (j : Int) → (catS l)[j]? = some 10 → pf l (l.length - b - 1) ≤ j
/-- The end of Relex, once it is known which tokens are kept. -/
theorem rx_tail (l : List Tn) (m : List Ed) (e : Ed) (r : List Ed) (f : Ed) (M : Bs) (E : List Int) (a c : Nat) (hm : m = e :: r) (hlast : m.getLast? = some f) (hl : l.length ≤ 20001) (ht : tot l ≤ 20001) (hE : IsEnds E l)
  (happ : app (ba (catS l)) 0 m = (catS l).take e.f0.toNat ++ (M ++ (catS l).drop f.f1.toNat)) (hx : (app (ba (catS l)) 0 m).length ≤ 20000) (hc : c ≤ l.length) (hac : a ≤ c)
  (hP : Front ((catS l).take e.f0.toNat) ((l.take a).map unS)) (hQ : Back ((catS l).drop f.f1.toNat) ((l.drop c).map unS))
  (h1 : ∀ j : Nat, (j : Int) < e.f0 → (catS l)[j]? = some 10 → j < pf l (a + 1)) (h2 : ∀ j : Nat, f.f1 ≤ (j : Int) → (catS l)[j]? = some 10 → pf l (c - 1) ≤ j) :
  ∃ n mid, RxOk l m n a (l.length - c) ∧ pf l a + (tot l - pf l c) ≤ (app (ba (catS l)) 0 m).length ∧
   Ev (fun k => token_Lex.f k ((ba (app (ba (catS l)) 0 m)).extract (pf l a) ((app (ba (catS l)) 0 m).length - (tot l - pf l c)))) (mid, 0) ∧ api_Token_36.f [l.take a, mid, l.drop c] = some n := by
 have hcl := pf_tot l c; have hcv := cat_suf l c; have hcu := cat_pf l a; have key := front_back hP hQ M; rw [← happ, hcu, hcv] at key; have hP1 := hP.1; have hQ1 := hQ.1
 have hlen : (app (ba (catS l)) 0 m).length = ((catS l).take e.f0.toNat).length + (M.length + ((catS l).drop f.f1.toNat).length) := (by rw [happ, List.length_append, List.length_append])
 generalize hA : app (ba (catS l)) 0 m = A at *
 have hle : pf l a + (tot l - pf l c) ≤ A.length := (by omega)
 have hmid : ((ba A).extract (pf l a) (A.length - (tot l - pf l c))).data.toList = (A.take (A.length - (tot l - pf l c))).drop (pf l a) := by
  rw [ext_list, ba_data, List.drop_take]
 have hms : ((ba A).extract (pf l a) (A.length - (tot l - pf l c))).size ≤ 20000 := (by rw [ByteArray.size_extract, ba_size]; omega)
 have hLex := Lex_ev ((ba A).extract (pf l a) (A.length - (tot l - pf l c))) (by omega); rw [if_neg (by omega), hmid] at hLex
 have hn : lexS A = l.take a ++ (lexS ((A.take (A.length - (tot l - pf l c))).drop (pf l a)) ++ l.drop c) := by
  rw [lexS, key, List.map_append, List.map_append, map_mk, map_mk]; rfl
 have hml := lexS_length ((A.take (A.length - (tot l - pf l c))).drop (pf l a)); rw [List.length_drop, List.length_take] at hml; generalize lexS ((A.take (A.length - (tot l - pf l c))).drop (pf l a)) = mid at *
 have hta : (l.take a).length = a := (by rw [List.length_take]; omega)
 have htc : (l.drop c).length = l.length - c := List.length_drop
 have hnl : (lexS A).length = a + (mid.length + (l.length - c)) := (by rw [hn, List.length_append, List.length_append, hta, htc])
 refine ⟨lexS A, mid, ⟨by rw [hA], by omega, by omega, ?_, ?_, fun h => (by rw [hm] at h; cases h), ?_, ?_⟩, hle, hLex, ?_⟩
 ·rw [hn, List.take_left' hta]
 ·rw [show l.length - (l.length - c) = c by omega, hnl, hn, ← List.append_assoc, List.drop_left']; rw [List.length_append, hta]
  omega
 ·intro e' r' h; rw [hm] at h; injection h with h _; subst h; exact h1
 ·intro e' h j hj hj2
  have hf : f = e' := by
   rw [h] at hlast; injection hlast with hlast; exact hlast.symm
  subst hf; have := h2 j hj hj2
  rwa [show l.length - (l.length - c) - 1 = c - 1 by omega]
 ·unfold api_Token_36.f
  have ef : [l.take a, mid, l.drop c].flatten = lexS A := (by rw [hn]; simp)
  rw [ef, if_pos]; refine ⟨by simp, ?_⟩; rw [hnl]
  omega
theorem rx_j0 (l : List Tn) (m : List Ed) (e : Ed) (r : List Ed) (E : List Int) (a : Nat) (hm : m = e :: r) (hk : lexS (catS l) = l) (hl : l.length ≤ 20001) (ht : tot l ≤ 20001) (hE : IsEnds E l) (hlm : m.length ≤ 102)
  (hsp : sp (tot l : Nat) 0 m = true) (hx : (app (ba (catS l)) 0 m).length ≤ 20000) (ha : a = 0 ∨ ∃ n : Nat, (n : Int) < e.f0 ∧ n < pf l (a + 1) ∧ pf l a ≤ n ∧ a < l.length)
  (hP : Front ((catS l).take e.f0.toNat) ((l.take a).map unS)) (h1 : ∀ j : Nat, (j : Int) < e.f0 → (catS l)[j]? = some 10 → j < pf l (a + 1)) :
  ∃ n b, RxOk l m n a b ∧ Ev (fun k => relex_Relex.j0 k l m (ba (catS l)) (ba (app (ba (catS l)) 0 m)) E (a : Int)) (n, (a : Int), (b : Int), 0) := by
 have hs := solid_of l hk
 have hsz : (ba (catS l)).size = tot l := (by rw [ba_size, catS_length])
 have hsp' : sp (ba (catS l)).size 0 (e :: r) = true := (by rw [hsz, ← hm]; exact hsp)
 obtain ⟨M, f, hlast, happ, f0, f1, f2⟩ := app_split (ba (catS l)) e r hsp'; rw [ba_data, ← hm] at happ; rw [← hm] at hlast; rw [hsz] at f2
 have hm0 : 0 < m.length := (by rw [hm]; simp)
 have hji : wrap64 ((m.length : Int) - 1) = ((m.length - 1 : Nat) : Int) := (by rw [w64 (by omega) (by omega)]; omega)
 have hrd : rd_T39 m ((m.length - 1 : Nat) : Int) = f := by
  apply rd_at (r := [])
  rw [List.getLast?_eq_getElem?] at hlast; rw [List.drop_eq_getElem_cons (by omega), List.drop_of_length_le (by omega)]; rw [List.getElem?_eq_getElem (by omega)] at hlast; injection hlast with hlast; rw [hlast]
 have hz : E.length = l.length + 1 := hE.1
 obtain ⟨To, hTo⟩ : ∃ To : Nat, f.f1 = (To : Int) := ⟨f.f1.toNat, by omega⟩
 have hToN : f.f1.toNat = To := (by omega)
 have hxs : (ba (app (ba (catS l)) 0 m)).size = (app (ba (catS l)) 0 m).length := ba_size _
 have hal : a ≤ l.length := by
  rcases ha with ha | ⟨n, _, _, _, ha⟩ <;> omega
 have hpa := pf_tot l a
 rcases index_nl (ba (catS l)) To (by omega) with ⟨hidx, hno⟩ | ⟨n, hn1, hn2, hidx, hnl, hno⟩
 ·rw [ba_data] at hno
  have hQ : Back ((catS l).drop f.f1.toNat) ((l.drop l.length).map unS) := (by rw [List.drop_length]; exact back_nil _)
  obtain ⟨n', mid, hok, hle, hLex, hcon⟩ := rx_tail l m e r f M E a l.length hm hlast hl ht hE happ hx (Nat.le_refl _) hal hP hQ h1 (fun j hj hj2 => absurd hj2 (hno j (by omega))); rw [pf_all l (Nat.le_refl _)] at hle hLex; refine ⟨n', l.length - l.length, hok, Ev.shift ?_⟩; simp only [relex_Relex.j0]; rw [hji, hrd, hTo]; simp only [hsz, Int.toNat_natCast]; rw [hsz] at hidx; have r1 := hE.val a hal; have r2 := hE.val l.length (Nat.le_refl _); rw [pf_all l (Nat.le_refl _)] at r2; rw [r1, r2, hxs, w64 (n := (tot l : Int) - (tot l : Int)) (by omega) (by omega), w64 (n := ((app (ba (catS l)) 0 m).length : Int) - ((tot l : Int) - (tot l : Int))) (by omega) (by omega)]; refine Ev.pos (by omega) (Ev.pos (by omega) (Ev.pos (by omega) (Ev.pos (by omega) (Ev.bind1 hidx (Ev.neg (by omega) ?_))))); refine Ev.pos (by omega) (Ev.pos (by omega) (Ev.pos (by omega) (Ev.pos (by omega) (Ev.pos (by omega) (Ev.pos (by omega) (Ev.pos (by omega) ?_)))))); rw [show (((app (ba (catS l)) 0 m).length : Int) - ((tot l : Int) - (tot l : Int))).toNat = (app (ba (catS l)) 0 m).length - (tot l - tot l) by omega]; refine Ev.bind hLex (Ev.pos (by omega) (Ev.pos (by omega) (Ev.bind1 hcon ?_))); rw [w64 (by omega) (by omega), show (l.length : Int) - (l.length : Int) = ((l.length - l.length : Nat) : Int) by omega]; exact Ev.now _
 ·rw [ba_data] at hno hnl; rw [hsz] at hn2; obtain ⟨h, hh1, hh2, hh3, hH⟩ := holding_ev l E (by omega) (by omega) hE hs n hn2; have hQ : Back ((catS l).drop f.f1.toNat) ((l.drop (h + 1)).map unS) := back_at l hk h n f.f1.toNat hh1 hnl (by omega) hh2 hh3
  have hah : a ≤ h + 1 := by
   rcases ha with ha | ⟨n0, ha1, ha2, ha3, ha4⟩
   ·omega
   ·rcases Nat.lt_or_ge (h + 1) a with hlt | hge
    ·have := pf_le l (show h + 1 ≤ a by omega)
     omega
    ·exact hge
  obtain ⟨n', mid, hok, hle, hLex, hcon⟩ := rx_tail l m e r f M E a (h + 1) hm hlast hl ht hE happ hx (by omega) hah hP hQ h1 (fun j hj hj2 => by
   rw [show h + 1 - 1 = h by omega]
   rcases Nat.lt_or_ge j n with hjn | hjn
   ·exact absurd hj2 (hno j (by omega) hjn)
   ·omega)
  refine ⟨n', l.length - (h + 1), hok, Ev.shift ?_⟩; simp only [relex_Relex.j0]; rw [hji, hrd, hTo]; simp only [hsz, Int.toNat_natCast]; rw [hsz] at hidx; have hpk := pf_tot l (h + 1); have r1 := hE.val a hal; have r2 := hE.val (h + 1) (by omega); refine Ev.pos (by omega) (Ev.pos (by omega) (Ev.pos (by omega) (Ev.pos (by omega) (Ev.bind1 hidx (Ev.pos (by omega) ?_))))); rw [w64 (n := (To : Int) + ((n : Int) - (To : Int))) (by omega) (by omega), show (To : Int) + ((n : Int) - (To : Int)) = (n : Int) by omega]; refine Ev.bind hH ?_; rw [w64 (n := (h : Int) + 1) (by omega) (by omega), show (h : Int) + 1 = ((h + 1 : Nat) : Int) from rfl, r1, r2, hxs, w64 (n := (tot l : Int) - (pf l (h + 1) : Int)) (by omega) (by omega), w64 (n := ((app (ba (catS l)) 0 m).length : Int) - ((tot l : Int) - (pf l (h + 1) : Int))) (by omega) (by omega)]; refine Ev.pos (by omega) (Ev.pos (by omega) (Ev.pos (by omega) (Ev.pos (by omega) (Ev.pos (by omega) (Ev.pos (by omega) (Ev.pos (by omega) ?_)))))); rw [show (((app (ba (catS l)) 0 m).length : Int) - ((tot l : Int) - (pf l (h + 1) : Int))).toNat = (app (ba (catS l)) 0 m).length - (tot l - pf l (h + 1)) by omega]; simp only [Int.toNat_natCast]; refine Ev.bind hLex (Ev.pos (by omega) (Ev.pos (by omega) (Ev.bind1 hcon ?_))); rw [w64 (by omega) (by omega), show (l.length : Int) - ((h + 1 : Nat) : Int) = ((l.length - (h + 1) : Nat) : Int) by omega]; exact Ev.now _
theorem Relex_ev (l : List Tn) (m : List Ed) (hf : Fine3 l) (hm : Fit m) (hc : chk4 l m = 0) : ∃ n a b, RxOk l m n a b ∧ Ev (fun k => relex_Relex.f k l m) (n, (a : Int), (b : Int), 0) := by
 obtain ⟨h1, h2⟩ := hf
 have hT : chkT l = 0 := by
  unfold chk4 at hc; by_cases h : chkT l = 0
  ·exact h
  ·rw [if_neg h] at hc; exact absurd hc h
 have hM : chk (tot l : Nat) m = 0 := by
  unfold chk4 at hc
  rwa [if_pos hT] at hc
 obtain ⟨t1, t2, t3⟩ := chkT_ok hT; obtain ⟨c1, c2, c3, c4⟩ := chk_ok hM; have hs := solid_of l t3
 have hsz : (ba (catS l)).size = tot l := (by rw [ba_size, catS_length])
 have hTx := Text_ev l ⟨h1, h2⟩; simp only [hT, if_true] at hTx; have hAp := apply_ev (ba (catS l)) m (by omega) hm; rw [hsz, if_pos hM, hM] at hAp; have hal := app_length (ba (catS l)) m 0 (by rw [hsz]; exact c3) (Int.le_refl _) (by omega); rw [hsz] at hal
 have hx : (app (ba (catS l)) 0 m).length ≤ 20000 := (by omega)
 unfold relex_Relex.f
 cases m with
 | nil =>
  have happ : app (ba (catS l)) 0 [] = catS l := by
   rw [app, cutS_end, ba_data]; rfl
  refine ⟨l, l.length, 0, ⟨by rw [happ, t3], by omega, by omega, rfl, rfl, fun _ => ⟨rfl, rfl⟩, fun e r h => (by cases h), fun e h => (by cases h)⟩, ?_⟩; refine Ev.bind hTx (Ev.pos rfl (Ev.bind hAp (Ev.pos rfl (Ev.pos rfl (Ev.bind1 (a := l) ?_ (Ev.now _)))))); unfold api_Token_31.f; rw [if_pos (by omega)]
 | cons e r =>
  obtain ⟨g1, g2, g3, g4⟩ := sp_cons c3; have hrd : rd_T39 (e :: r) 0 = e := rfl; obtain ⟨E, hE, hEE⟩ := ends_ev l (by omega) (by omega)
  obtain ⟨F, hF⟩ : ∃ F : Nat, e.f0 = (F : Int) := ⟨e.f0.toNat, by omega⟩
  have hFN : e.f0.toNat = F := (by omega)
  have hlm : (e :: r).length ≤ 102 := (by omega)
  have hlen : ((e :: r).length : Int) = (r.length : Int) + 1 := (by simp)
  rcases last_nl (ba (catS l)) F (by omega) with ⟨hidx, hno⟩ | ⟨n, hn1, hidx, hnl, hno⟩
  ·rw [ba_data] at hno; have hP : Front ((catS l).take e.f0.toNat) ((l.take 0).map unS) := front_nil _; obtain ⟨n, b, hok, hj⟩ := rx_j0 l (e :: r) e r E 0 rfl t3 h1 h2 hE hlm c3 hx (.inl rfl) hP (fun j hj hj2 => absurd hj2 (hno j (by omega))); refine ⟨n, 0, b, hok, ?_⟩; refine Ev.bind hTx (Ev.pos rfl (Ev.bind hAp (Ev.pos rfl (Ev.neg (by omega) (Ev.bind hEE (Ev.pos (by omega) ?_)))))); rw [hrd, hF]; simp only [hsz, Int.toNat_natCast]; refine Ev.pos (by omega) (Ev.pos (by omega) (Ev.bind1 (a := -1) (by unfold strings_LastIndexByte.f; rw [if_pos (by rw [ByteArray.size_extract]; omega), hidx]) (Ev.neg (by decide) hj)))
  ·rw [ba_data] at hno hnl
   have hnt : n < tot l := (by omega)
   obtain ⟨h, hh1, hh2, hh3, hH⟩ := holding_ev l E (by omega) (by omega) hE hs n hnt; have hP : Front ((catS l).take e.f0.toNat) ((l.take h).map unS) := front_at l t3 h n e.f0.toNat hh1 hnl (by omega) hh2 hh3
   obtain ⟨n', b, hok, hj⟩ := rx_j0 l (e :: r) e r E h rfl t3 h1 h2 hE hlm c3 hx (.inr ⟨n, by omega, hh3, hh2, hh1⟩) hP (fun j hj hj2 => by
    rcases Nat.lt_or_ge n j with hjn | hjn
    ·exact absurd hj2 (hno j hjn (by omega))
    ·omega)
   refine ⟨n', h, b, hok, ?_⟩; refine Ev.bind hTx (Ev.pos rfl (Ev.bind hAp (Ev.pos rfl (Ev.neg (by omega) (Ev.bind hEE (Ev.pos (by omega) ?_)))))); rw [hrd, hF]; simp only [hsz, Int.toNat_natCast]; refine Ev.pos (by omega) (Ev.pos (by omega) (Ev.bind1 (a := (n : Int)) (by unfold strings_LastIndexByte.f; rw [if_pos (by rw [ByteArray.size_extract]; omega), hidx]) (Ev.pos (by omega) (Ev.bind hH hj))))
theorem Relex_bad (l : List Tn) (m : List Ed) (hf : Fine3 l) (hm : Fit m) (hc : chk4 l m ≠ 0) : Ev (fun k => relex_Relex.f k l m) ([], 0, 0, chk4 l m) := by
 have hf2 := hf.2; have hTx := Text_ev l hf; unfold relex_Relex.f chk4 at *; by_cases hT : chkT l = 0
 ·rw [if_pos hT] at hc ⊢; simp only [hT, if_true] at hTx
  have hsz : (ba (catS l)).size = tot l := (by rw [ba_size, catS_length])
  have hAp := apply_ev (ba (catS l)) m (by omega) hm; rw [hsz, if_neg hc] at hAp; exact Ev.bind hTx (Ev.pos rfl (Ev.bind hAp (Ev.neg hc (Ev.now _))))
 ·rw [if_neg hT] at hc ⊢; simp only [if_neg hT] at hTx; exact Ev.bind hTx (Ev.neg hT (Ev.now _))
end Go.Proofs.Ytahcpappailjgaa.P

set_option linter.unusedVariables false
namespace Go.Proofs.Ytahcpappailjgaa.P
open Go.RowKit Go.Proofs.YtahcpappailjgaaW.PrintWords Go.Proofs.YtahcpappailjgaaW.PrintLast Go.Proofs.YtahcpappailjgaaW.PrintMore
theorem alive_ev : Ev (fun k => marginalialaw04_alive.f k) true := Ev.of marginalialaw04_alive.mono (k := 60) (by kernel_rfl)
end Go.Proofs.Ytahcpappailjgaa.P

set_option linter.unusedVariables false
namespace Go.Proofs.Ytahcpappailjgaa.P
open Go.RowKit Go.Proofs.Ytahcpappailjgaa Go.Proofs.YtahcpappailjgaaW.PrintWords Go.Proofs.YtahcpappailjgaaW.PrintLast Go.Proofs.YtahcpappailjgaaW.PrintMore
theorem over_ev (l n : List Tn) (a b : Nat) (hl : l.length ≤ 20001) (hn : n.length ≤ 100000) (h1 : a + b ≤ l.length) (h2 : a + b ≤ n.length) (h3 : n.take a = l.take a) (h4 : n.drop (n.length - b) = l.drop (l.length - b)) :
  Ev (fun k => marginalialaw04_over.f k l n (a : Int) (b : Int)) true := by
 unfold marginalialaw04_over.f; rw [w64 (n := (a : Int) + (b : Int)) (by omega) (by omega)]; refine Ev.neg (by omega) (Ev.neg (by omega) (Ev.neg (by omega) ?_)); rw [decide_eq_false (by omega : ¬ (a : Int) + (b : Int) > (n.length : Int))]; refine Ev.shift ?_; simp only [marginalialaw04_over.j0]; rw [w64 (n := (l.length : Int) - (b : Int)) (by omega) (by omega), w64 (n := (n.length : Int) - (b : Int)) (by omega) (by omega), show ((l.length : Int) - (b : Int)).toNat = l.length - b by omega, show ((n.length : Int) - (b : Int)).toNat = n.length - b by omega, Int.toNat_natCast, h3, h4]; refine Ev.neg (by decide) (Ev.pos (by omega) (Ev.pos (by omega) (Ev.pos (by omega) (Ev.bind (rSame_ev _ _ (by rw [List.length_take]; omega)) (Ev.pos (decide_eq_true rfl) ?_))))); refine Ev.pos (by omega) (Ev.pos (by omega) (Ev.pos (by omega) (Ev.pos (by omega) (Ev.bind (rSame_ev _ _ (by rw [List.length_drop]; omega)) ?_)))); rw [decide_eq_true rfl]; exact Ev.now _
theorem bt10 (s : ByteArray) (i : Nat) (h : i < s.size) : (bt s (i : Int) = 10) ↔ s.data.toList[i]? = some 10 := by
 obtain ⟨c, r, hc⟩ := drop_cons_of_lt h; obtain ⟨_, hb⟩ := bt_drop hc
 have h1 : s.data.toList[i]? = some c := by
  have := congrArg (fun x : Bs => x[0]?) hc
  simpa [List.getElem?_drop] using this
 rw [hb, h1]; exact ⟨fun q => by rw [(byte_int c 10 (by decide)).1 q]; rfl, fun q => by injection q with q; rw [q]; rfl⟩
theorem wnat (n : Nat) (h : n ≤ 20001) : wrap64 ((n : Int) + 1) = ((n + 1 : Nat) : Int) := (w64 (by omega) (by omega)).trans (by omega)
theorem least_l2 (l : List Tn) (hl : l.length ≤ 20001) (ht : tot l ≤ 20001) (a b : Nat) (K : Nat) (hK : K + b = l.length) (bf af : Int) (h1 : ∀ i : Nat, (pf l (i + 1) : Int) ≤ bf → i + 1 ≤ a) (h2 : ∀ i : Nat, 0 ≤ af → (pf l i : Int) > af → K ≤ i) :
  ∀ (d i c1 c2 : Nat), i + d = l.length → c1 ≤ i → c1 ≤ a → c2 ≤ i - K → ∃ x y : Int, x ≤ (a : Int) ∧ y ≤ (b : Int) ∧ Ev (fun k => marginaliaref04_Least.l2 k l bf af (c1 : Int) (c2 : Int) (pf l i : Int) (i : Int)) (x, y) := by
 intro d
 induction d with
 | zero =>
  intro i c1 c2 hi hc1 hc1a hc2; refine ⟨mx 0 ((c1 : Int) - 1), mx 0 ((c2 : Int) - 1), ?_, ?_, Ev.shift ?_⟩
  ·unfold mx; split <;> omega
  ·unfold mx; split <;> omega
  ·simp only [marginaliaref04_Least.l2]; rw [w64 (n := (c1 : Int) - 1) (by omega) (by omega), w64 (n := (c2 : Int) - 1) (by omega) (by omega)]; exact Ev.neg (by omega) (Ev.now _)
 | succ d ih =>
  intro i c1 c2 hi hc1 hc1a hc2
  have hlt : i < l.length := (by omega)
  have hs := pf_succ l i hlt; have hp := pf_tot l (i + 1); have hr := rd_tn (List.drop_eq_getElem_cons hlt); have hi2 : i ≤ 20001 := Nat.le_trans (Nat.le_of_lt hlt) hl; have hc1z := Nat.le_trans hc1 hi2; have hc2z := Nat.le_trans hc2 (Nat.le_trans (Nat.sub_le _ _) hi2)
  have hsz : (pf l i : Int) + ((l[i]).f1.size : Int) = (pf l (i + 1) : Int) := (by omega)
  have hpz : pf l (i + 1) ≤ 20001 := Nat.le_trans hp ht
  have hfirst : (pf l (i + 1) : Int) ≤ bf → c1 + 1 ≤ a := fun h => Nat.le_trans (Nat.succ_le_succ hc1) (h1 i h)
  have hlast : af ≥ 0 → (pf l i : Int) > af → c2 + 1 ≤ i + 1 - K := fun h0 h => by
   have := h2 i h0 h
   omega
  have key : ∀ big : Bool, ∀ c2' : Nat, (big = true → c2' = c2 + 1) → (big = false → c2' = c2) → c2' ≤ i + 1 - K → ∃ x y : Int, x ≤ (a : Int) ∧ y ≤ (b : Int) ∧ Ev (fun k => marginaliaref04_Least.j3 k l bf af (c1 : Int) (c2 : Int) (pf l i : Int) (i : Int) big) (x, y) := by
   intro big c2' hb1 hb2 hc; by_cases hf : (pf l (i + 1) : Int) ≤ bf
   ·obtain ⟨x, y, hx, hy, hE⟩ := ih (i + 1) (c1 + 1) c2' (by omega) (by omega) (hfirst hf) hc; refine ⟨x, y, hx, hy, Ev.shift ?_⟩; simp only [marginaliaref04_Least.j3]; rw [hr, hsz, w64 (n := (pf l (i + 1) : Int)) (by omega) (by omega), wnat i hi2, wnat c1 hc1z, wnat c2 hc2z]
    cases big with
    | true => obtain rfl := hb1 rfl; exact Ev.pos rfl (Ev.pos (by omega) (Ev.pos (by omega) (Ev.pos hf hE)))
    | false => obtain rfl := hb2 rfl; exact Ev.neg (by decide) (Ev.pos (by omega) (Ev.pos (by omega) (Ev.pos hf hE)))
   ·obtain ⟨x, y, hx, hy, hE⟩ := ih (i + 1) c1 c2' (by omega) (by omega) hc1a hc; refine ⟨x, y, hx, hy, Ev.shift ?_⟩; simp only [marginaliaref04_Least.j3]; rw [hr, hsz, w64 (n := (pf l (i + 1) : Int)) (by omega) (by omega), wnat i hi2, wnat c1 hc1z, wnat c2 hc2z]
    cases big with
    | true => obtain rfl := hb1 rfl; exact Ev.pos rfl (Ev.pos (by omega) (Ev.pos (by omega) (Ev.neg hf hE)))
    | false => obtain rfl := hb2 rfl; exact Ev.neg (by decide) (Ev.pos (by omega) (Ev.pos (by omega) (Ev.neg hf hE)))
  by_cases h0 : af ≥ 0
  ·by_cases hg : (pf l i : Int) > af
   ·obtain ⟨x, y, hx, hy, hE⟩ := key true (c2 + 1) (fun _ => rfl) (fun h => by cases h) (hlast h0 hg); refine ⟨x, y, hx, hy, Ev.shift ?_⟩; simp only [marginaliaref04_Least.l2]; rw [decide_eq_true hg]; exact Ev.pos (by omega) (Ev.pos h0 hE)
   ·obtain ⟨x, y, hx, hy, hE⟩ := key false c2 (fun h => by cases h) (fun _ => rfl) (by omega); refine ⟨x, y, hx, hy, Ev.shift ?_⟩; simp only [marginaliaref04_Least.l2]; rw [decide_eq_false hg]; exact Ev.pos (by omega) (Ev.pos h0 hE)
  ·obtain ⟨x, y, hx, hy, hE⟩ := key false c2 (fun h => by cases h) (fun _ => rfl) (by omega); refine ⟨x, y, hx, hy, Ev.shift ?_⟩; simp only [marginaliaref04_Least.l2]; exact Ev.pos (by omega) (Ev.neg h0 hE)
theorem least_l1 (l : List Tn) (s : ByteArray) (bf F To : Int) (new : ByteArray) (h0 : 0 ≤ To) (hs : s.size ≤ 20001) (r : Int × Int → Prop) (hr : ∀ af : Int, (af = -1 ∨ ∃ j : Nat, af = (j : Int) ∧ To ≤ (j : Int) ∧ s.data.toList[j]? = some 10) → ∃ q, r q ∧ Ev (fun k => marginaliaref04_Least.l2 k l bf af 0 0 0 0) q) :
  ∀ (d : Nat) (x af : Int), d = (x - To + 1).toNat → x < (s.size : Int) → -1 ≤ x → (af = -1 ∨ ∃ j : Nat, af = (j : Int) ∧ To ≤ (j : Int) ∧ s.data.toList[j]? = some 10) → ∃ q, r q ∧ Ev (fun k => marginaliaref04_Least.l1 k l s bf af x F To new) q := by
 intro d
 induction d with
 | zero =>
  intro x af hd hx hx1 haf; obtain ⟨q, hq, hE⟩ := hr af haf; refine ⟨q, hq, Ev.shift ?_⟩; simp only [marginaliaref04_Least.l1]; exact Ev.neg (by omega) hE
 | succ d ih =>
  intro x af hd hx hx1 haf
  obtain ⟨i, rfl⟩ : ∃ i : Nat, x = (i : Int) := ⟨x.toNat, by omega⟩
  have hw : wrap64 ((i : Int) - 1) = (i : Int) - 1 := w64 (by omega) (by omega); by_cases hb : bt s (i : Int) = 10
  ·obtain ⟨q, hq, hE⟩ := ih ((i : Int) - 1) (i : Int) (by omega) (by omega) (by omega) (.inr ⟨i, rfl, by omega, (bt10 s i (by omega)).1 hb⟩); refine ⟨q, hq, Ev.shift ?_⟩; simp only [marginaliaref04_Least.l1]; rw [hw]; exact Ev.pos (by omega) (Ev.pos (by omega) (Ev.pos (by omega) (Ev.pos hb hE)))
  ·obtain ⟨q, hq, hE⟩ := ih ((i : Int) - 1) af (by omega) (by omega) (by omega) haf; refine ⟨q, hq, Ev.shift ?_⟩; simp only [marginaliaref04_Least.l1]; rw [hw]; exact Ev.pos (by omega) (Ev.pos (by omega) (Ev.pos (by omega) (Ev.neg hb hE)))
theorem least_l0 (l : List Tn) (s : ByteArray) (F : Nat) (To : Int) (new : ByteArray) (hF : F ≤ s.size) (hs : s.size ≤ 20001) (r : Int × Int → Prop) (hr : ∀ bf : Int, (bf = -1 ∨ ∃ j : Nat, bf = (j : Int) ∧ j < F ∧ s.data.toList[j]? = some 10) → ∃ q, r q ∧ Ev (fun k => marginaliaref04_Least.l1 k l s bf (-1) ((s.size : Int) - 1) (F : Int) To new) q) :
  ∀ (d i : Nat) (bf : Int), i + d = F → (bf = -1 ∨ ∃ j : Nat, bf = (j : Int) ∧ j < F ∧ s.data.toList[j]? = some 10) → ∃ q, r q ∧ Ev (fun k => marginaliaref04_Least.l0 k l s bf (-1) (i : Int) (F : Int) To new) q := by
 intro d
 induction d with
 | zero =>
  intro i bf hi hbf; obtain ⟨q, hq, hE⟩ := hr bf hbf; refine ⟨q, hq, Ev.shift ?_⟩; simp only [marginaliaref04_Least.l0]; rw [w64 (n := (s.size : Int) - 1) (by omega) (by omega)]; exact Ev.neg (by omega) hE
 | succ d ih =>
  intro i bf hi hbf; have hw : wrap64 ((i : Int) + 1) = ((i + 1 : Nat) : Int) := (w64 (by omega) (by omega)).trans (by omega); by_cases hb : bt s (i : Int) = 10
  ·obtain ⟨q, hq, hE⟩ := ih (i + 1) (i : Int) (by omega) (.inr ⟨i, rfl, by omega, (bt10 s i (by omega)).1 hb⟩); refine ⟨q, hq, Ev.shift ?_⟩; simp only [marginaliaref04_Least.l0]; rw [hw]; exact Ev.pos (by omega) (Ev.pos (by omega) (Ev.pos (by omega) (Ev.pos hb hE)))
  ·obtain ⟨q, hq, hE⟩ := ih (i + 1) bf (by omega) hbf; refine ⟨q, hq, Ev.shift ?_⟩; simp only [marginaliaref04_Least.l0]; rw [hw]; exact Ev.pos (by omega) (Ev.pos (by omega) (Ev.pos (by omega) (Ev.neg hb hE)))
theorem Least_ev (l : List Tn) (e : Ed) (n : List Tn) (a b : Nat) (hf : Fine3 l) (h0 : 0 ≤ e.f0) (h1 : e.f0 ≤ e.f1) (h2 : e.f1 ≤ (tot l : Int)) (hok : RxOk l [e] n a b) :
  ∃ q : Int × Int, (q.1 ≤ (a : Int) ∧ q.2 ≤ (b : Int)) ∧ Ev (fun k => marginaliaref04_Least.f k l e.f0 e.f1 e.f2) q := by
 obtain ⟨f1, f2⟩ := hf
 have hsz : (ba (catS l)).size = tot l := (by rw [ba_size, catS_length])
 obtain ⟨F, hF⟩ : ∃ F : Nat, e.f0 = (F : Int) := ⟨e.f0.toNat, by omega⟩
 have hb := hok.le1
 obtain ⟨q, hq, hE⟩ := least_l0 l (ba (catS l)) F e.f1 e.f2 (by omega) (by omega) (fun q => q.1 ≤ (a : Int) ∧ q.2 ≤ (b : Int)) (fun bf hbf => by
  refine least_l1 l (ba (catS l)) bf (F : Int) e.f1 e.f2 (by omega) (by omega) (fun q => q.1 ≤ (a : Int) ∧ q.2 ≤ (b : Int)) (fun af haf => ?_) _ _ (-1) rfl (by omega) (by omega) (.inl rfl)
  have c1 : bf < (pf l (a + 1) : Int) := by
   rcases hbf with rfl | ⟨j, rfl, hj, hj2⟩
   ·omega
   ·rw [ba_data] at hj2; have := hok.fst e [] rfl j (by omega) hj2
    omega
  have c2 : af < 0 ∨ (pf l (l.length - b - 1) : Int) ≤ af := by
   rcases haf with rfl | ⟨j, rfl, hj, hj2⟩
   ·left; omega
   ·right
    rw [ba_data] at hj2; have := hok.lst e rfl j hj hj2
    omega
  obtain ⟨x, y, hx, hy, hE⟩ := least_l2 l f1 f2 a b (l.length - b) (by omega) bf af (fun i hi => by
   rcases Nat.lt_or_ge i a with q | q
   ·exact q
   ·have := pf_le l (show a + 1 ≤ i + 1 by omega)
    omega) (fun i h0 hi => by
   rcases Nat.lt_or_ge i (l.length - b) with q | q
   ·have := pf_le l (show i ≤ l.length - b - 1 by omega)
    rcases c2 with c2 | c2 <;> omega
   ·exact q) l.length 0 0 0 (by omega) (by omega) (by omega) (by omega)
  have e0 : (pf l 0 : Int) = 0 := (by simp [pf, tot])
  rw [e0] at hE
  exact ⟨(x, y), ⟨hx, hy⟩, hE⟩) F 0 (-1) (by omega) (.inl rfl)
 refine ⟨q, hq, ?_⟩; unfold marginaliaref04_Least.f; rw [hF]; exact Ev.bind (rText_ev l ⟨f1, f2⟩) hE
end Go.Proofs.Ytahcpappailjgaa.P
namespace Go.Proofs.Ytahcpappailjgaa.Pure
open Go.RowKit Go.Proofs.Ytahcpappailjgaa Go.Proofs.Ytahcpappailjgaa.P Go.Proofs.YtahcpappailjgaaW.PrintWords
theorem RelexTokens : ∀ (a0 : List (S59)) (a1 : List (S39)), (fun l => l.length ≤ 9223372036854775807 ∧ ∀ a ∈ l, ok59 a) a0 → (fun l => l.length ≤ 9223372036854775807 ∧ ∀ a ∈ l, ok39 a) a1 → ∃ k, marginalialaw04_RelexTokens.f k a0 a1 = some true := by
 intro a0 a1 h0 h1
 apply Ev.rounds
 obtain ⟨l, hl, hL⟩ := Cut3_ev a0 h0.1; have hf : Fit (cut 2000 a1) := (cut_fine h1.2).fit (by omega); unfold marginalialaw04_RelexTokens.f; refine Ev.bind hL (Ev.bind (Cut_ev a1 2000 h1.1) ?_); generalize cut 2000 a1 = m at hf ⊢; have hC := rCheck4_ev l m hl hf; by_cases hc : chk4 l m = 0
 ·obtain ⟨n, a, b, hok, hR⟩ := Relex_ev l m hl hf hc
  have hT : chkT l = 0 := by
   unfold chk4 at hc; by_cases h : chkT l = 0
   ·exact h
   ·rw [if_neg h] at hc; exact absurd hc h
  have hM : chk (tot l : Nat) m = 0 := by
   unfold chk4 at hc
   rwa [if_pos hT] at hc
  obtain ⟨c1, c2, c3, c4⟩ := chk_ok hM
  have hsz : (ba (catS l)).size = tot l := (by rw [ba_size, catS_length])
  have hal := app_length (ba (catS l)) m 0 (by rw [hsz]; exact c3) (Int.le_refl _) (by omega); rw [hsz] at hal
  have hx : (app (ba (catS l)) 0 m).length ≤ 20000 := (by omega)
  have hA := rapply_ev (ba (catS l)) m (by rw [hsz]; exact hM); have hLx := rLex_ev (ba (app (ba (catS l)) 0 m)) (by rw [ba_size]; omega); rw [ba_data] at hLx; have hnl := lexS_length (app (ba (catS l)) 0 m); rw [← hok.toks] at hnl hLx; have hO := over_ev l n a b hl.1 (by omega) hok.le1 hok.le2 hok.pre hok.suf; rw [hc] at hC; refine Ev.bind hR (Ev.bind hC (Ev.pos rfl (Ev.bind (rText_ev l hl) (Ev.bind hA (Ev.bind hLx (Ev.pos rfl (Ev.bind (rSame_ev n n (by omega)) (Ev.pos (decide_eq_true rfl) (Ev.bind hO (Ev.shift ?_)))))))))); simp only [marginalialaw04_RelexTokens.j0]; refine Ev.neg (by decide) ?_
  cases m with
  | nil =>
   obtain ⟨ha, hb⟩ := hok.nil rfl; subst ha; subst hb; exact Ev.pos rfl (Ev.pos rfl (Ev.pos rfl (Ev.bind alive_ev (Ev.now _))))
  | cons e r =>
   refine Ev.neg (by simp; omega) ?_
   cases r with
   | cons e' r => exact Ev.pos (by simp; omega) (Ev.bind alive_ev (Ev.now _))
   | nil =>
    obtain ⟨g1, g2, g3, _⟩ := sp_cons c3; obtain ⟨q, ⟨hq1, hq2⟩, hE⟩ := Least_ev l e n a b hl g1 g2 g3 hok; exact Ev.neg (by simp) (Ev.pos (by simp) (Ev.bind hE (Ev.pos hq1 (Ev.pos hq2 (Ev.bind alive_ev (Ev.now _))))))
 ·refine Ev.bind (Relex_bad l m hl hf hc) (Ev.bind hC (Ev.neg hc (Ev.pos rfl (Ev.pos rfl (Ev.pos rfl (Ev.pos rfl (Ev.bind alive_ev (Ev.now _))))))))
end Go.Proofs.Ytahcpappailjgaa.Pure

