/- What the claim's row needs of the seat's texts, part 4: put together by a program of this session (declarations that no text of the claim names are left out). -/

import Derived.Test.YtahcpappailjgaaI3
set_option linter.unusedVariables false
set_option linter.unusedSimpArgs false
namespace Go.Proofs.Ytahcpappailjgaa.P
open Go.RowKit Go.Proofs.YtahcpappailjgaaW.PrintWords Go.Proofs.YtahcpappailjgaaW.PrintLast Go.Proofs.YtahcpappailjgaaW.PrintMore
theorem cutS_end (s : ByteArray) (a : Int) : cutS s a s.size = s.data.toList.drop a.toNat := by
 rw [cutS_eq, Int.toNat_natCast, List.take_of_length_le (by rw [isize]; exact Nat.le_refl _)]
theorem app_end (s : ByteArray) : ∀ (r : List Ed) (e : Ed) (p : Int), sp s.size p (e :: r) = true → 0 ≤ p → ∃ (M : Bs) (f : Ed), (e :: r).getLast? = some f ∧ app s p (e :: r) = cutS s p e.f0 ++ (M ++ s.data.toList.drop f.f1.toNat) ∧ e.f0 ≤ f.f1 ∧ f.f1 ≤ s.size
 | [], e, p, h, h0 => by
  obtain ⟨h1, h2, h3, h4⟩ := sp_cons h; refine ⟨e.f2.data.toList, e, rfl, ?_, h2, h3⟩; rw [app, app, cutS_end, List.append_assoc]
 | e' :: r, e, p, h, h0 => by
  obtain ⟨h1, h2, h3, h4⟩ := sp_cons h; obtain ⟨M, f, hf, ha, hf1, hf2⟩ := app_end s r e' e.f1 h4 (by omega); obtain ⟨g1, _⟩ := sp_cons h4; refine ⟨e.f2.data.toList ++ (cutS s e.f1 e'.f0 ++ M), f, by rw [List.getLast?_cons_cons]; exact hf, ?_, by omega, hf2⟩; rw [app, ha]; simp only [List.append_assoc]
theorem app_split (s : ByteArray) (e : Ed) (r : List Ed) (h : sp s.size 0 (e :: r) = true) : ∃ (M : Bs) (f : Ed), (e :: r).getLast? = some f ∧ app s 0 (e :: r) = s.data.toList.take e.f0.toNat ++ (M ++ s.data.toList.drop f.f1.toNat) ∧ 0 ≤ e.f0 ∧ e.f0 ≤ f.f1 ∧ f.f1 ≤ s.size := by
 obtain ⟨M, f, hf, ha, h1, h2⟩ := app_end s r e 0 h (Int.le_refl _); obtain ⟨g1, _⟩ := sp_cons h; refine ⟨M, f, hf, ?_, g1, h1, h2⟩; rw [ha, cutS_eq]
 simp
theorem split_at {α : Type} {l : List α} {i : Nat} (h : i < l.length) : l = l.take i ++ l[i] :: l.drop (i + 1) := by
 rw [List.getElem_cons_drop, List.take_append_drop]
theorem at_split {α : Type} {l : List α} {n : Nat} {x : α} (h : l[n]? = some x) : l = l.take n ++ x :: l.drop (n + 1) := by
 obtain ⟨hn, e⟩ := List.getElem?_eq_some_iff.1 h; subst e; exact split_at hn
/-! ### tokens of both forms -/
theorem map_un (l : List Tk) : (l.map mkS).map unS = l := by
 rw [List.map_map]
 conv => rhs; rw [← List.map_id l]
 exact List.map_congr_left (fun t _ => un_mk t)
theorem map_mk (l : List Tn) : (l.map unS).map mkS = l := by
 rw [List.map_map]
 conv => rhs; rw [← List.map_id l]
 exact List.map_congr_left (fun t _ => mk_un t)
theorem lex_of (l : List Tn) (h : lexS (catS l) = l) : lex (catS l) = l.map unS := by
 conv => rhs; rw [← h]
 rw [lexS, map_un]
theorem cat_un (l : List Tn) : cat (l.map unS) = catS l := by
 unfold cat catS; rw [List.map_map]; rfl
theorem cat_pf (l : List Tn) (i : Nat) : (cat ((l.take i).map unS)).length = pf l i := by rw [cat_un, catS_length]; rfl
theorem cat_suf (l : List Tn) (i : Nat) : (cat ((l.drop i).map unS)).length = tot l - pf l i := by
 rw [cat_un, catS_length]
 have : tot l = tot (l.take i) + tot (l.drop i) := (by rw [← tot_append, List.take_append_drop])
 unfold pf
 omega
theorem solid_of (l : List Tn) (h : lexS (catS l) = l) : Solid l := by
 intro t ht; rw [← h] at ht; obtain ⟨u, hu, rfl⟩ := List.mem_map.1 ht; have := lex_pos _ u hu
 show 0 < (ba u.2).size
 rw [ba_size]
 cases e : u.2 with
 | nil => exact absurd e this
 | cons c r => simp
theorem split_un (l : List Tn) (i : Nat) (h : i < l.length) : l.map unS = (l.take i).map unS ++ unS l[i] :: (l.drop (i + 1)).map unS := by
 conv => lhs; rw [split_at h]
 rw [List.map_append, List.map_cons]
theorem cut_nl {T : Bs} {n : Nat} (h : T[n]? = some 10) : T = T.take n ++ 10 :: T.drop (n + 1) := at_split h
theorem front_at (l : List Tn) (h : lexS (catS l) = l) (i n F : Nat) (hi : i < l.length) (hn : (catS l)[n]? = some 10) (hF : n < F) (h1 : pf l i ≤ n) (h2 : n < pf l (i + 1)) : Front ((catS l).take F) ((l.take i).map unS) := by
 have hlt := (List.getElem?_eq_some_iff.1 hn).1
 have hl : ((catS l).take n).length = n := (by rw [List.length_take]; omega)
 have := front_of (T := catS l) (P := (catS l).take n) (Z := (catS l).drop (n + 1)) (u := (l.take i).map unS) (t := unS l[i]) (v := (l.drop (i + 1)).map unS) (by rw [lex_of l h]; exact split_un l i hi) (cut_nl hn) (by rw [cat_pf, hl]; exact h1)
  (by rw [cat_pf, hl]; have := pf_succ l i hi; have e : (unS l[i]).2.length = (l[i]).f1.size := isize _; omega) (((catS l).drop (n + 1)).take (F - (n + 1)))
 have e : (catS l).take F = (catS l).take n ++ 10 :: ((catS l).drop (n + 1)).take (F - (n + 1)) := by
  conv => lhs; rw [cut_nl hn]
  rw [List.take_append, hl, List.take_of_length_le (by omega : ((catS l).take n).length ≤ F)]
  congr 1
  rw [show F - n = (F - (n + 1)) + 1 by omega, List.take_succ_cons]
 rw [e]; exact this
theorem back_at (l : List Tn) (h : lexS (catS l) = l) (i n To : Nat) (hi : i < l.length) (hn : (catS l)[n]? = some 10) (hT : To ≤ n) (h1 : pf l i ≤ n) (h2 : n < pf l (i + 1)) : Back ((catS l).drop To) ((l.drop (i + 1)).map unS) := by
 have hlt := (List.getElem?_eq_some_iff.1 hn).1
 have hl : ((catS l).take n).length = n := (by rw [List.length_take]; omega)
 have := back_of (T := catS l) (P := (catS l).take n) (Z := (catS l).drop (n + 1)) (u := (l.take i).map unS) (t := unS l[i]) (v := (l.drop (i + 1)).map unS) (by rw [lex_of l h]; exact split_un l i hi) (cut_nl hn) (by rw [cat_pf, hl]; exact h1)
  (by rw [cat_pf, hl]; have := pf_succ l i hi; have e : (unS l[i]).2.length = (l[i]).f1.size := isize _; omega) (((catS l).take n).drop To)
 have e : (catS l).drop To = ((catS l).take n).drop To ++ 10 :: (catS l).drop (n + 1) := by
  conv => lhs; rw [cut_nl hn]
  rw [List.drop_append_of_le_length (by omega)]
 rw [e]; exact this
theorem catS_map (L : List Tk) : catS (L.map mkS) = cat L := by
 unfold catS cat; rw [List.map_map]
 congr 1
theorem catS_lexS (T : Bs) : catS (lexS T) = T := by
 rw [lexS, catS_map, cat_lex T.length T (Nat.le_refl _)]
theorem tot_lexS (T : Bs) : tot (lexS T) = T.length := by rw [← catS_length, catS_lexS]
theorem chkT_lexS (T : Bs) (h : T.length ≤ 20000) : chkT (lexS T) = 0 := by
 have := lexS_length T; unfold chkT; rw [tot_lexS, catS_lexS, if_neg (by omega), if_pos rfl]
theorem chk4_lexS (T : Bs) (h : T.length ≤ 20000) (m : List Ed) : chk4 (lexS T) m = chk (T.length : Nat) m := by
 unfold chk4; rw [if_pos (chkT_lexS T h), tot_lexS]
theorem fine_lexS (T : Bs) (h : T.length ≤ 20000) : Fine3 (lexS T) := ⟨by have := lexS_length T; omega, by rw [tot_lexS]; omega⟩
/-- What Relex returns. -/
structure RxOk (l : List Tn) (m : List Ed) (n : List Tn) (a b : Nat) : Prop where
 toks : n = lexS (app (ba (catS l)) 0 m)
 le1 : a + b ≤ l.length
 le2 : a + b ≤ n.length
 pre : n.take a = l.take a
 suf : n.drop (n.length - b) = l.drop (l.length - b)
 nil : m = [] → a = l.length ∧ b = 0
 fst : ∀ e r, m = e :: r → ∀ j : Nat, (j : Int) < e.f0 → (catS l)[j]? = some 10 → j < pf l (a + 1)
 lst : ∀ e, m = [e] → ∀ j : Nat, e.f1 ≤ (j : Int) → (catS l)[j]? = some 10 → pf l (l.length - b - 1) ≤ j
/-- The end of Relex, once it is known which tokens are kept. -/
theorem rx_tail (l : List Tn) (m : List Ed) (e : Ed) (r : List Ed) (f : Ed) (M : Bs) (E : List Int) (a c : Nat) (hm : m = e :: r) (hlast : m.getLast? = some f) (hl : l.length ≤ 20001) (ht : tot l ≤ 20001) (hE : IsEnds E l)
  (happ : app (ba (catS l)) 0 m = (catS l).take e.f0.toNat ++ (M ++ (catS l).drop f.f1.toNat)) (hx : (app (ba (catS l)) 0 m).length ≤ 20000) (hc : c ≤ l.length) (hac : a ≤ c)
  (hP : Front ((catS l).take e.f0.toNat) ((l.take a).map unS)) (hQ : Back ((catS l).drop f.f1.toNat) ((l.drop c).map unS))
  (h1 : ∀ j : Nat, (j : Int) < e.f0 → (catS l)[j]? = some 10 → j < pf l (a + 1)) (h2 : ∀ j : Nat, f.f1 ≤ (j : Int) → (catS l)[j]? = some 10 → pf l (c - 1) ≤ j) :
  ∃ n mid, RxOk l m n a (l.length - c) ∧ pf l a + (tot l - pf l c) ≤ (app (ba (catS l)) 0 m).length ∧
   Ev (fun k => token_Lex.f k ((ba (app (ba (catS l)) 0 m)).extract (pf l a) ((app (ba (catS l)) 0 m).length - (tot l - pf l c)))) (mid, 0) ∧ api_Token_36.f [l.take a, mid, l.drop c] = some n := by
 have hcl := pf_tot l c; have hcv := cat_suf l c; have hcu := cat_pf l a; have key := front_back hP hQ M; rw [← happ, hcu, hcv] at key; have hP1 := hP.1; have hQ1 := hQ.1
 have hlen : (app (ba (catS l)) 0 m).length = ((catS l).take e.f0.toNat).length + (M.length + ((catS l).drop f.f1.toNat).length) := (by rw [happ, List.length_append, List.length_append])
 generalize hA : app (ba (catS l)) 0 m = A at *
 have hle : pf l a + (tot l - pf l c) ≤ A.length := (by omega)
 have hmid : ((ba A).extract (pf l a) (A.length - (tot l - pf l c))).data.toList = (A.take (A.length - (tot l - pf l c))).drop (pf l a) := by
  rw [ext_list, ba_data, List.drop_take]
 have hms : ((ba A).extract (pf l a) (A.length - (tot l - pf l c))).size ≤ 20000 := (by rw [ByteArray.size_extract, ba_size]; omega)
 have hLex := Lex_ev ((ba A).extract (pf l a) (A.length - (tot l - pf l c))) (by omega); rw [if_neg (by omega), hmid] at hLex
 have hn : lexS A = l.take a ++ (lexS ((A.take (A.length - (tot l - pf l c))).drop (pf l a)) ++ l.drop c) := by
  rw [lexS, key, List.map_append, List.map_append, map_mk, map_mk]; rfl
 have hml := lexS_length ((A.take (A.length - (tot l - pf l c))).drop (pf l a)); rw [List.length_drop, List.length_take] at hml; generalize lexS ((A.take (A.length - (tot l - pf l c))).drop (pf l a)) = mid at *
 have hta : (l.take a).length = a := (by rw [List.length_take]; omega)
 have htc : (l.drop c).length = l.length - c := List.length_drop
 have hnl : (lexS A).length = a + (mid.length + (l.length - c)) := (by rw [hn, List.length_append, List.length_append, hta, htc])
 refine ⟨lexS A, mid, ⟨by rw [hA], by omega, by omega, ?_, ?_, fun h => (by rw [hm] at h; cases h), ?_, ?_⟩, hle, hLex, ?_⟩
 ·rw [hn, List.take_left' hta]
 ·rw [show l.length - (l.length - c) = c by omega, hnl, hn, ← List.append_assoc, List.drop_left']; rw [List.length_append, hta]
  omega
 ·intro e' r' h; rw [hm] at h; injection h with h _; subst h; exact h1
 ·intro e' h j hj hj2
  have hf : f = e' := by
   rw [h] at hlast; injection hlast with hlast; exact hlast.symm
  subst hf; have := h2 j hj hj2
  rwa [show l.length - (l.length - c) - 1 = c - 1 by omega]
 ·unfold api_Token_36.f
  have ef : [l.take a, mid, l.drop c].flatten = lexS A := (by rw [hn]; simp)
  rw [ef, if_pos]; refine ⟨by simp, ?_⟩; rw [hnl]
  omega
theorem rx_j0 (l : List Tn) (m : List Ed) (e : Ed) (r : List Ed) (E : List Int) (a : Nat) (hm : m = e :: r) (hk : lexS (catS l) = l) (hl : l.length ≤ 20001) (ht : tot l ≤ 20001) (hE : IsEnds E l) (hlm : m.length ≤ 102)
  (hsp : sp (tot l : Nat) 0 m = true) (hx : (app (ba (catS l)) 0 m).length ≤ 20000) (ha : a = 0 ∨ ∃ n : Nat, (n : Int) < e.f0 ∧ n < pf l (a + 1) ∧ pf l a ≤ n ∧ a < l.length)
  (hP : Front ((catS l).take e.f0.toNat) ((l.take a).map unS)) (h1 : ∀ j : Nat, (j : Int) < e.f0 → (catS l)[j]? = some 10 → j < pf l (a + 1)) :
  ∃ n b, RxOk l m n a b ∧ Ev (fun k => relex_Relex.j0 k l m (ba (catS l)) (ba (app (ba (catS l)) 0 m)) E (a : Int)) (n, (a : Int), (b : Int), 0) := by
 have hs := solid_of l hk
 have hsz : (ba (catS l)).size = tot l := (by rw [ba_size, catS_length])
 have hsp' : sp (ba (catS l)).size 0 (e :: r) = true := (by rw [hsz, ← hm]; exact hsp)
 obtain ⟨M, f, hlast, happ, f0, f1, f2⟩ := app_split (ba (catS l)) e r hsp'; rw [ba_data, ← hm] at happ; rw [← hm] at hlast; rw [hsz] at f2
 have hm0 : 0 < m.length := (by rw [hm]; simp)
 have hji : wrap64 ((m.length : Int) - 1) = ((m.length - 1 : Nat) : Int) := (by rw [w64 (by omega) (by omega)]; omega)
 have hrd : rd_T39 m ((m.length - 1 : Nat) : Int) = f := by
  apply rd_at (r := [])
  rw [List.getLast?_eq_getElem?] at hlast; rw [List.drop_eq_getElem_cons (by omega), List.drop_of_length_le (by omega)]; rw [List.getElem?_eq_getElem (by omega)] at hlast; injection hlast with hlast; rw [hlast]
 have hz : E.length = l.length + 1 := hE.1
 obtain ⟨To, hTo⟩ : ∃ To : Nat, f.f1 = (To : Int) := ⟨f.f1.toNat, by omega⟩
 have hToN : f.f1.toNat = To := (by omega)
 have hxs : (ba (app (ba (catS l)) 0 m)).size = (app (ba (catS l)) 0 m).length := ba_size _
 have hal : a ≤ l.length := by
  rcases ha with ha | ⟨n, _, _, _, ha⟩ <;> omega
 have hpa := pf_tot l a
 rcases index_nl (ba (catS l)) To (by omega) with ⟨hidx, hno⟩ | ⟨n, hn1, hn2, hidx, hnl, hno⟩
 ·rw [ba_data] at hno
  have hQ : Back ((catS l).drop f.f1.toNat) ((l.drop l.length).map unS) := (by rw [List.drop_length]; exact back_nil _)
  obtain ⟨n', mid, hok, hle, hLex, hcon⟩ := rx_tail l m e r f M E a l.length hm hlast hl ht hE happ hx (Nat.le_refl _) hal hP hQ h1 (fun j hj hj2 => absurd hj2 (hno j (by omega))); rw [pf_all l (Nat.le_refl _)] at hle hLex; refine ⟨n', l.length - l.length, hok, Ev.shift ?_⟩; simp only [relex_Relex.j0]; rw [hji, hrd, hTo]; simp only [hsz, Int.toNat_natCast]; rw [hsz] at hidx; have r1 := hE.val a hal; have r2 := hE.val l.length (Nat.le_refl _); rw [pf_all l (Nat.le_refl _)] at r2; rw [r1, r2, hxs, w64 (n := (tot l : Int) - (tot l : Int)) (by omega) (by omega), w64 (n := ((app (ba (catS l)) 0 m).length : Int) - ((tot l : Int) - (tot l : Int))) (by omega) (by omega)]; refine Ev.pos (by omega) (Ev.pos (by omega) (Ev.pos (by omega) (Ev.pos (by omega) (Ev.bind1 hidx (Ev.neg (by omega) ?_))))); refine Ev.pos (by omega) (Ev.pos (by omega) (Ev.pos (by omega) (Ev.pos (by omega) (Ev.pos (by omega) (Ev.pos (by omega) (Ev.pos (by omega) ?_)))))); rw [show (((app (ba (catS l)) 0 m).length : Int) - ((tot l : Int) - (tot l : Int))).toNat = (app (ba (catS l)) 0 m).length - (tot l - tot l) by omega]; refine Ev.bind hLex (Ev.pos (by omega) (Ev.pos (by omega) (Ev.bind1 hcon ?_))); rw [w64 (by omega) (by omega), show (l.length : Int) - (l.length : Int) = ((l.length - l.length : Nat) : Int) by omega]; exact Ev.now _
 ·rw [ba_data] at hno hnl; rw [hsz] at hn2; obtain ⟨h, hh1, hh2, hh3, hH⟩ := holding_ev l E (by omega) (by omega) hE hs n hn2; have hQ : Back ((catS l).drop f.f1.toNat) ((l.drop (h + 1)).map unS) := back_at l hk h n f.f1.toNat hh1 hnl (by omega) hh2 hh3
  have hah : a ≤ h + 1 := by
   rcases ha with ha | ⟨n0, ha1, ha2, ha3, ha4⟩
   ·omega
   ·rcases Nat.lt_or_ge (h + 1) a with hlt | hge
    ·have := pf_le l (show h + 1 ≤ a by omega)
     omega
    ·exact hge
  obtain ⟨n', mid, hok, hle, hLex, hcon⟩ := rx_tail l m e r f M E a (h + 1) hm hlast hl ht hE happ hx (by omega) hah hP hQ h1 (fun j hj hj2 => by
   rw [show h + 1 - 1 = h by omega]
   rcases Nat.lt_or_ge j n with hjn | hjn
   ·exact absurd hj2 (hno j (by omega) hjn)
   ·omega)
  refine ⟨n', l.length - (h + 1), hok, Ev.shift ?_⟩; simp only [relex_Relex.j0]; rw [hji, hrd, hTo]; simp only [hsz, Int.toNat_natCast]; rw [hsz] at hidx; have hpk := pf_tot l (h + 1); have r1 := hE.val a hal; have r2 := hE.val (h + 1) (by omega); refine Ev.pos (by omega) (Ev.pos (by omega) (Ev.pos (by omega) (Ev.pos (by omega) (Ev.bind1 hidx (Ev.pos (by omega) ?_))))); rw [w64 (n := (To : Int) + ((n : Int) - (To : Int))) (by omega) (by omega), show (To : Int) + ((n : Int) - (To : Int)) = (n : Int) by omega]; refine Ev.bind hH ?_; rw [w64 (n := (h : Int) + 1) (by omega) (by omega), show (h : Int) + 1 = ((h + 1 : Nat) : Int) from rfl, r1, r2, hxs, w64 (n := (tot l : Int) - (pf l (h + 1) : Int)) (by omega) (by omega), w64 (n := ((app (ba (catS l)) 0 m).length : Int) - ((tot l : Int) - (pf l (h + 1) : Int))) (by omega) (by omega)]; refine Ev.pos (by omega) (Ev.pos (by omega) (Ev.pos (by omega) (Ev.pos (by omega) (Ev.pos (by omega) (Ev.pos (by omega) (Ev.pos (by omega) ?_)))))); rw [show (((app (ba (catS l)) 0 m).length : Int) - ((tot l : Int) - (pf l (h + 1) : Int))).toNat = (app (ba (catS l)) 0 m).length - (tot l - pf l (h + 1)) by omega]; simp only [Int.toNat_natCast]; refine Ev.bind hLex (Ev.pos (by omega) (Ev.pos (by omega) (Ev.bind1 hcon ?_))); rw [w64 (by omega) (by omega), show (l.length : Int) - ((h + 1 : Nat) : Int) = ((l.length - (h + 1) : Nat) : Int) by omega]; exact Ev.now _
theorem Relex_ev (l : List Tn) (m : List Ed) (hf : Fine3 l) (hm : Fit m) (hc : chk4 l m = 0) : ∃ n a b, RxOk l m n a b ∧ Ev (fun k => relex_Relex.f k l m) (n, (a : Int), (b : Int), 0) := by
 obtain ⟨h1, h2⟩ := hf
 have hT : chkT l = 0 := by
  unfold chk4 at hc; by_cases h : chkT l = 0
  ·exact h
  ·rw [if_neg h] at hc; exact absurd hc h
 have hM : chk (tot l : Nat) m = 0 := by
  unfold chk4 at hc
  rwa [if_pos hT] at hc
 obtain ⟨t1, t2, t3⟩ := chkT_ok hT; obtain ⟨c1, c2, c3, c4⟩ := chk_ok hM; have hs := solid_of l t3
 have hsz : (ba (catS l)).size = tot l := (by rw [ba_size, catS_length])
 have hTx := Text_ev l ⟨h1, h2⟩; simp only [hT, if_true] at hTx; have hAp := apply_ev (ba (catS l)) m (by omega) hm; rw [hsz, if_pos hM, hM] at hAp; have hal := app_length (ba (catS l)) m 0 (by rw [hsz]; exact c3) (Int.le_refl _) (by omega); rw [hsz] at hal
 have hx : (app (ba (catS l)) 0 m).length ≤ 20000 := (by omega)
 unfold relex_Relex.f
 cases m with
 | nil =>
  have happ : app (ba (catS l)) 0 [] = catS l := by
   rw [app, cutS_end, ba_data]; rfl
  refine ⟨l, l.length, 0, ⟨by rw [happ, t3], by omega, by omega, rfl, rfl, fun _ => ⟨rfl, rfl⟩, fun e r h => (by cases h), fun e h => (by cases h)⟩, ?_⟩; refine Ev.bind hTx (Ev.pos rfl (Ev.bind hAp (Ev.pos rfl (Ev.pos rfl (Ev.bind1 (a := l) ?_ (Ev.now _)))))); unfold api_Token_31.f; rw [if_pos (by omega)]
 | cons e r =>
  obtain ⟨g1, g2, g3, g4⟩ := sp_cons c3; have hrd : rd_T39 (e :: r) 0 = e := rfl; obtain ⟨E, hE, hEE⟩ := ends_ev l (by omega) (by omega)
  obtain ⟨F, hF⟩ : ∃ F : Nat, e.f0 = (F : Int) := ⟨e.f0.toNat, by omega⟩
  have hFN : e.f0.toNat = F := (by omega)
  have hlm : (e :: r).length ≤ 102 := (by omega)
  have hlen : ((e :: r).length : Int) = (r.length : Int) + 1 := (by simp)
  rcases last_nl (ba (catS l)) F (by omega) with ⟨hidx, hno⟩ | ⟨n, hn1, hidx, hnl, hno⟩
  ·rw [ba_data] at hno; have hP : Front ((catS l).take e.f0.toNat) ((l.take 0).map unS) := front_nil _; obtain ⟨n, b, hok, hj⟩ := rx_j0 l (e :: r) e r E 0 rfl t3 h1 h2 hE hlm c3 hx (.inl rfl) hP (fun j hj hj2 => absurd hj2 (hno j (by omega))); refine ⟨n, 0, b, hok, ?_⟩; refine Ev.bind hTx (Ev.pos rfl (Ev.bind hAp (Ev.pos rfl (Ev.neg (by omega) (Ev.bind hEE (Ev.pos (by omega) ?_)))))); rw [hrd, hF]; simp only [hsz, Int.toNat_natCast]; refine Ev.pos (by omega) (Ev.pos (by omega) (Ev.bind1 (a := -1) (by unfold strings_LastIndexByte.f; rw [if_pos (by rw [ByteArray.size_extract]; omega), hidx]) (Ev.neg (by decide) hj)))
  ·rw [ba_data] at hno hnl
   have hnt : n < tot l := (by omega)
   obtain ⟨h, hh1, hh2, hh3, hH⟩ := holding_ev l E (by omega) (by omega) hE hs n hnt; have hP : Front ((catS l).take e.f0.toNat) ((l.take h).map unS) := front_at l t3 h n e.f0.toNat hh1 hnl (by omega) hh2 hh3
   obtain ⟨n', b, hok, hj⟩ := rx_j0 l (e :: r) e r E h rfl t3 h1 h2 hE hlm c3 hx (.inr ⟨n, by omega, hh3, hh2, hh1⟩) hP (fun j hj hj2 => by
    rcases Nat.lt_or_ge n j with hjn | hjn
    ·exact absurd hj2 (hno j hjn (by omega))
    ·omega)
   refine ⟨n', h, b, hok, ?_⟩; refine Ev.bind hTx (Ev.pos rfl (Ev.bind hAp (Ev.pos rfl (Ev.neg (by omega) (Ev.bind hEE (Ev.pos (by omega) ?_)))))); rw [hrd, hF]; simp only [hsz, Int.toNat_natCast]; refine Ev.pos (by omega) (Ev.pos (by omega) (Ev.bind1 (a := (n : Int)) (by unfold strings_LastIndexByte.f; rw [if_pos (by rw [ByteArray.size_extract]; omega), hidx]) (Ev.pos (by omega) (Ev.bind hH hj))))
end Go.Proofs.Ytahcpappailjgaa.P

set_option linter.unusedVariables false
set_option linter.unusedSimpArgs false
namespace Go.Proofs.Ytahcpappailjgaa.P
open Go.RowKit Go.Proofs.YtahcpappailjgaaW.PrintWords Go.Proofs.YtahcpappailjgaaW.PrintLast Go.Proofs.YtahcpappailjgaaW.PrintMore
def preT : List Tn → List Tn → Nat
 | x :: xs, y :: ys => if x = y then preT xs ys + 1 else 0
 | _, _ => 0
theorem preT_le : ∀ (l m : List Tn), preT l m ≤ l.length ∧ preT l m ≤ m.length
 | [], _ => by simp [preT]
 | _ :: _, [] => by simp [preT]
 | x :: xs, y :: ys => by
  have := preT_le xs ys; simp only [preT]
  split <;> simp <;> omega
theorem rd_get (l : List Tn) (i : Nat) (h : i < l.length) : rd_T59 l (i : Int) = l[i] := rd_tn (List.drop_eq_getElem_cons h)
theorem com_l0 (a b : List Tn) (ha : a.length ≤ 20001) (hb : b.length ≤ 20001) : ∀ (d i : Nat), min a.length b.length - i = d → i ≤ min a.length b.length → ∀ r,
  Ev (fun k => relex_Common.j1 k a b ((i + preT (a.drop i) (b.drop i) : Nat) : Int)) r → Ev (fun k => relex_Common.l0 k a b (i : Int)) r := by
 intro d
 induction d with
 | zero =>
  intro i hd hi r h
  have e : preT (a.drop i) (b.drop i) = 0 := by
   have := preT_le (a.drop i) (b.drop i); simp only [List.length_drop] at this
   omega
  rw [e] at h; refine Ev.shift ?_; simp only [relex_Common.l0]; rw [mn_nat]; exact Ev.neg (by omega) h
 | succ d ih =>
  intro i hd hi r h
  have h1 : i < a.length := (by omega)
  have h2 : i < b.length := (by omega)
  rw [List.drop_eq_getElem_cons h1, List.drop_eq_getElem_cons h2] at h; simp only [preT] at h; refine Ev.shift ?_; simp only [relex_Common.l0]; rw [mn_nat, rd_get a i h1, rd_get b i h2]; refine Ev.pos (by omega) (Ev.pos (by omega) (Ev.pos (by omega) (Ev.pos (by omega) ?_))); by_cases g : a[i] = b[i]
  ·refine Ev.pos ((tn_eq _ _).2 g) ?_; simp only [if_pos g] at h; rw [w64 (by omega) (by omega)]; refine ih (i + 1) (by omega) (by omega) r ?_; rw [show i + 1 + preT (a.drop (i + 1)) (b.drop (i + 1)) = i + (preT (a.drop (i + 1)) (b.drop (i + 1)) + 1) by omega]; exact h
  ·refine Ev.neg (fun e => g ((tn_eq _ _).1 e)) ?_; simp only [if_neg g] at h; exact h
/-- How many tokens at the ends, beyond n at the beginning, are the same. -/
def sufT (a b : List Tn) (n : Nat) : Nat := min (preT a.reverse b.reverse) (min a.length b.length - n)
theorem preT_step : ∀ (l m : List Tn) (k : Nat) (h : k < l.length) (h' : k < m.length), k ≤ preT l m → (l[k] = m[k] ↔ k < preT l m) := by
 intro l
 induction l with
 | nil => intro m k h; simp at h
 | cons x xs ih =>
  intro m k h h' hp
  cases m with
  | nil => simp at h'
  | cons y ys =>
   cases k with
   | zero =>
    simp only [List.getElem_cons_zero, preT]; by_cases e : x = y
    ·simp [e]
    ·simp [e]
   | succ k =>
    simp only [List.getElem_cons_succ, preT] at hp ⊢; by_cases e : x = y
    ·simp only [if_pos e] at hp ⊢; rw [ih ys k (by simpa using h) (by simpa using h') (by omega)]
     omega
    ·simp only [if_neg e] at hp
     omega
theorem sufT_step (a b : List Tn) (n k : Nat) (hk : k < min a.length b.length - n) (hle : k ≤ preT a.reverse b.reverse) :
  (a[a.length - 1 - k]'(by omega) = b[b.length - 1 - k]'(by omega)) ↔ k < preT a.reverse b.reverse := by
 have h3 : k < a.reverse.length := (by rw [List.length_reverse]; omega)
 have h4 : k < b.reverse.length := (by rw [List.length_reverse]; omega)
 have := preT_step _ _ k h3 h4 hle; rw [List.getElem_reverse, List.getElem_reverse] at this; exact this
theorem com_l1 (a b : List Tn) (ha : a.length ≤ 20001) (hb : b.length ≤ 20001) (n : Nat) (hn : n ≤ min a.length b.length) : ∀ (d k : Nat), min a.length b.length - n - k = d → k ≤ min a.length b.length - n → k ≤ preT a.reverse b.reverse →
  Ev (fun f => relex_Common.l1 f a b (n : Int) (k : Int)) ((n : Int), (sufT a b n : Int), 0) := by
 intro d
 induction d with
 | zero =>
  intro k hd hk hp
  have e : sufT a b n = k := (by unfold sufT; omega)
  refine Ev.shift ?_; simp only [relex_Common.l1]; rw [mn_nat, w64 (n := ((min a.length b.length : Nat) : Int) - n) (by omega) (by omega), e]; exact Ev.neg (by omega) (Ev.now _)
 | succ d ih =>
  intro k hd hk hp; refine Ev.shift ?_; simp only [relex_Common.l1]; rw [mn_nat, w64 (n := ((min a.length b.length : Nat) : Int) - n) (by omega) (by omega), w64 (n := (a.length : Int) - 1) (by omega) (by omega), w64 (n := (b.length : Int) - 1) (by omega) (by omega), w64 (n := (a.length : Int) - 1 - k) (by omega) (by omega), w64 (n := (b.length : Int) - 1 - k) (by omega) (by omega), w64 (n := (k : Int) + 1) (by omega) (by omega)]; refine Ev.pos (by omega) (Ev.pos (by omega) (Ev.pos (by omega) (Ev.pos (by omega) (Ev.pos (by omega) ?_)))); rw [show (a.length : Int) - 1 - k = ((a.length - 1 - k : Nat) : Int) by omega, show (b.length : Int) - 1 - k = ((b.length - 1 - k : Nat) : Int) by omega, rd_get a _ (by omega), rd_get b _ (by omega)]; by_cases g : k < preT a.reverse b.reverse
  ·refine Ev.pos ((tn_eq _ _).2 ((sufT_step a b n k (by omega) hp).2 g)) ?_; exact ih (k + 1) (by omega) (by omega) (by omega)
  ·have e : sufT a b n = k := (by unfold sufT; omega)
   rw [e]; exact Ev.neg (fun e => g ((sufT_step a b n k (by omega) hp).1 ((tn_eq _ _).1 e))) (Ev.now _)
theorem Common_ev (a b : List Tn) (ha : a.length ≤ 20001) (hb : b.length ≤ 20001) : Ev (fun k => relex_Common.f k a b) (if a.length > 20000 ∨ b.length > 20000 then (0, 0, 3) else ((preT a b : Int), (sufT a b (preT a b) : Int), 0)) := by
 have hp := preT_le a b; unfold relex_Common.f; rw [mx_nat]; by_cases h : a.length > 20000 ∨ b.length > 20000
 ·rw [if_pos h]; exact Ev.pos (by omega) (Ev.now _)
 ·rw [if_neg h]; refine Ev.neg (by omega) ?_; refine com_l0 a b ha hb _ 0 rfl (Nat.zero_le _) _ ?_; rw [List.drop_zero, List.drop_zero, Nat.zero_add]; refine Ev.shift ?_; simp only [relex_Common.j1]; exact com_l1 a b ha hb (preT a b) (by omega) _ 0 rfl (Nat.zero_le _) (Nat.zero_le _)
end Go.Proofs.Ytahcpappailjgaa.P

set_option linter.unusedVariables false
namespace Go.Proofs.Ytahcpappailjgaa.P
open Go.RowKit Go.Proofs.YtahcpappailjgaaW.PrintWords Go.Proofs.YtahcpappailjgaaW.PrintLast Go.Proofs.YtahcpappailjgaaW.PrintMore
theorem alive_ev : Ev (fun k => marginalialaw04_alive.f k) true := Ev.of marginalialaw04_alive.mono (k := 60) (by kernel_rfl)
end Go.Proofs.Ytahcpappailjgaa.P

set_option linter.unusedVariables false
set_option linter.unusedSimpArgs false
namespace Go.Proofs.Ytahcpappailjgaa.P
open Go.RowKit Go.Proofs.YtahcpappailjgaaW.PrintWords Go.Proofs.YtahcpappailjgaaW.PrintLast Go.Proofs.YtahcpappailjgaaW.PrintMore
theorem chk_of {n : Int} {l : List Ed} (h1 : n ≤ 20000) (h2 : l.length ≤ 100) (h3 : sp n 0 l = true) (h4 : n - spanSum l + newSum l ≤ 20000) : chk n l = 0 := by
 unfold chk; rw [if_neg (by omega), if_neg (by omega), if_pos h3, if_neg (by omega)]
end Go.Proofs.Ytahcpappailjgaa.P

set_option linter.unusedVariables false
namespace Go.Proofs.Ytahcpappailjgaa.P
open Go.RowKit Go.Proofs.Ytahcpappailjgaa Go.Proofs.YtahcpappailjgaaW.PrintWords Go.Proofs.YtahcpappailjgaaW.PrintLast Go.Proofs.YtahcpappailjgaaW.PrintMore
theorem preT_app : ∀ (u x y : List Tn), u.length ≤ preT (u ++ x) (u ++ y)
 | [], x, y => Nat.zero_le _
 | t :: u, x, y => by
  have := preT_app u x y; rw [List.cons_append, List.cons_append, preT, if_pos rfl, List.length_cons]
  omega
theorem sufT_app (x y v : List Tn) : v.length ≤ preT (x ++ v).reverse (y ++ v).reverse := by
 rw [List.reverse_append, List.reverse_append]; have := preT_app v.reverse x.reverse y.reverse
 rwa [List.length_reverse] at this
theorem top_split (a1 : Bs) : ∃ (u : List Tk) (t : Tk), lex (a1 ++ [10]) = u ++ [t] ∧ Front (a1 ++ [10]) u := by
 have hne : lex (a1 ++ [10]) ≠ [] := by
  intro e; have := cat_lex _ (a1 ++ [10]) (Nat.le_refl _); rw [e] at this; have := congrArg List.length this
  simp [cat] at this
 obtain ⟨u, t, hut⟩ : ∃ u t, lex (a1 ++ [10]) = u ++ [t] := ⟨_, _, (List.dropLast_concat_getLast hne).symm⟩
 have hc := cat_lex _ (a1 ++ [10]) (Nat.le_refl _); rw [hut, cat_append] at hc; have hl := congrArg List.length hc; have ht : t.2 ≠ [] := lex_pos (a1 ++ [10]) t (by rw [hut]; simp)
 have ht1 : 0 < t.2.length := by
  cases e : t.2 with
  | nil => exact absurd e ht
  | cons c r => simp
 have e1 : cat [t] = t.2 := (by simp [cat])
 rw [e1, List.length_append, List.length_append] at hl; simp only [List.length_cons, List.length_nil] at hl; exact ⟨u, t, hut, front_of (T := a1 ++ [10]) (P := a1) (Z := []) (v := []) hut rfl (by omega) (by omega) []⟩
theorem end_split (b1 : Bs) : ∃ (t : Tk) (v : List Tk), lex (10 :: b1) = t :: v ∧ Back (10 :: b1) v := by
 have h := lex_cons 10 b1; have ht : (((nx (10 :: b1)).1, (10 :: b1).take (nx (10 :: b1)).2) : Tk).2 ≠ [] := lex_pos (10 :: b1) _ (by rw [h]; exact List.mem_cons_self)
 have ht1 : 0 < ((10 :: b1).take (nx (10 :: b1)).2).length := by
  cases e : (10 :: b1).take (nx (10 :: b1)).2 with
  | nil => exact absurd e ht
  | cons c r => simp
 exact ⟨_, _, h, back_of (T := 10 :: b1) (P := []) (Z := b1) (u := []) h rfl (Nat.zero_le _) (by show 0 < 0 + _; simpa [cat] using ht1) []⟩
/-- The two lists of tokens, with the same first ones and the same last ones. -/
theorem less_lex (a b : Bs) (a1 b1 m m' : Bs) (ha : a = a1 ++ [10]) (hb : b = 10 :: b1) :
  ∃ U V X Y : List Tn, lexS (a ++ (m ++ b)) = U ++ (X ++ V) ∧ lexS (a ++ (m' ++ b)) = U ++ (Y ++ V) ∧ (lexS a).length = U.length + 1 ∧ (lexS b).length = V.length + 1 := by
 subst ha; subst hb; obtain ⟨u, t, hu, hF⟩ := top_split a1; obtain ⟨t', v, hv, hB⟩ := end_split b1
 obtain ⟨X, h1⟩ : ∃ X, lex (a1 ++ [10] ++ (m ++ 10 :: b1)) = u ++ (X ++ v) := ⟨_, front_back hF hB m⟩
 obtain ⟨Y, h2⟩ : ∃ X, lex (a1 ++ [10] ++ (m' ++ 10 :: b1)) = u ++ (X ++ v) := ⟨_, front_back hF hB m'⟩
 refine ⟨u.map mkS, v.map mkS, X.map mkS, Y.map mkS, ?_, ?_, ?_, ?_⟩; rotate_left 2
 ·rw [lexS, hu]; simp
 ·rw [lexS, hv]; simp
 ·rw [lexS, h1, List.map_append, List.map_append]
 ·rw [lexS, h2, List.map_append, List.map_append]
theorem less_j1 (a b : ByteArray) (X N U V x y : List Tn) (hz : a.size ≤ 20000) (hz2 : b.size ≤ 20000) (hX : X = U ++ (x ++ V)) (hN : N = U ++ (y ++ V)) (hXl : X.length ≤ 20000) (hNl : N.length ≤ 20000) (ht : (lexS a.data.toList).length = U.length + 1) (he : (lexS b.data.toList).length = V.length + 1) :
  Ev (fun k => marginalialaw04_RelexLess.j1 k a b X N false) true := by
 have hC := Common_ev X N (by omega) (by omega); rw [if_neg (by omega)] at hC; have hA := Lex_ev a (by omega); have hB := Lex_ev b (by omega); rw [if_neg (by omega)] at hA hB
 have p1 : U.length ≤ preT X N := (by rw [hX, hN]; exact preT_app _ _ _)
 have p2 := preT_le X N
 have p3 : V.length ≤ preT X.reverse N.reverse := (by rw [hX, hN, ← List.append_assoc, ← List.append_assoc]; exact sufT_app _ _ _)
 have l1 : X.length = U.length + (x.length + V.length) := (by rw [hX]; simp)
 have l2 : N.length = U.length + (y.length + V.length) := (by rw [hN]; simp)
 have s1 : sufT X N (preT X N) = min (preT X.reverse N.reverse) (min X.length N.length - preT X N) := rfl; generalize preT X N = p at *; generalize sufT X N p = q at *; generalize preT X.reverse N.reverse = g at *
 have w1 : wrap64 (((U.length + 1 : Nat) : Int) - 1) = (U.length : Int) := (by rw [w64 (by omega) (by omega)]; omega)
 refine Ev.shift ?_; simp only [marginalialaw04_RelexLess.j1]; refine Ev.neg (by decide) (Ev.bind hC (Ev.pos rfl (Ev.bind hA (Ev.bind hB (Ev.pos rfl (Ev.pos rfl ?_)))))); simp only [ht, he]; rw [w1, w64 (n := (p : Int) + (q : Int)) (by omega) (by omega), w64 (n := (q : Int) + (p : Int)) (by omega) (by omega), w64 (n := ((U.length + 1 : Nat) : Int) + ((V.length + 1 : Nat) : Int)) (by omega) (by omega), w64 (n := ((U.length + 1 : Nat) : Int) + ((V.length + 1 : Nat) : Int) - 2) (by omega) (by omega)]; clear w1; refine Ev.pos (by omega) (Ev.pos (by omega) (Ev.pos ?_ (Ev.bind alive_ev (Ev.now _)))); rw [show ((U.length + 1 : Nat) : Int) + ((V.length + 1 : Nat) : Int) - 2 = ((U.length + V.length : Nat) : Int) by omega, mn_nat]
 omega
end Go.Proofs.Ytahcpappailjgaa.P
namespace Go.Proofs.Ytahcpappailjgaa.Pure
open Go.RowKit Go.Proofs.Ytahcpappailjgaa Go.Proofs.Ytahcpappailjgaa.P Go.Proofs.YtahcpappailjgaaW.PrintWords
theorem less_alive (a m b : ByteArray) (l : List Ed) : Ev (fun k => marginalialaw04_RelexLess.j0 k a m b l true) true := by
 refine Ev.shift ?_; simp only [marginalialaw04_RelexLess.j0]; exact Ev.pos trivial (Ev.bind alive_ev (Ev.now _))
theorem less_j0 (a m b : ByteArray) (a1 b1 : Bs) (e : Ed) (ha : a.data.toList = a1 ++ [10]) (hb : b.data.toList = 10 :: b1) (hza : a.size ≤ 4001) (hzm : m.size ≤ 4000) (hzb : b.size ≤ 4001) (hze : e.f2.size ≤ 2000) (h0 : 0 ≤ e.f0) (h1 : e.f0 ≤ e.f1) (h2 : e.f1 ≤ (m.size : Int)) :
  Ev (fun k => marginalialaw04_RelexLess.j0 k a m b [e] false) true := by
 have ea : (ba (a.data.toList ++ (m.data.toList ++ b.data.toList))) = (a ++ m) ++ b := by
  apply Eq.symm
  apply ba_eq
  simp
 have hsz : ((a ++ m) ++ b).size = a.size + m.size + b.size := (by rw [ByteArray.size_append, ByteArray.size_append])
 obtain ⟨F, hF⟩ : ∃ F : Nat, e.f0 = (F : Int) := ⟨e.f0.toNat, by omega⟩
 obtain ⟨To, hTo⟩ : ∃ T : Nat, e.f1 = (T : Int) := ⟨e.f1.toNat, by omega⟩
 obtain ⟨T, hT⟩ : ∃ T : Bs, T = a.data.toList ++ (m.data.toList ++ b.data.toList) := ⟨_, rfl⟩
 have hTd : ((a ++ m) ++ b).data.toList = T := (by rw [hT, ← ea, ba_data])
 have hTl : T.length = a.size + m.size + b.size := (by rw [← hTd, isize, hsz])
 obtain ⟨e', he'⟩ : ∃ e' : Ed, e' = ⟨e.f0 + (a.size : Int), e.f1 + (a.size : Int), e.f2⟩ := ⟨_, rfl⟩
 have hc : chk (T.length : Nat) [e'] = 0 := by
  apply chk_of
  ·omega
  ·simp
  ·rw [he']; simp only [sp, Bool.and_true, Bool.and_eq_true, decide_eq_true_eq]; refine ⟨by omega, by omega, by omega⟩
  ·rw [he']; simp only [spanSum, newSum, List.map_cons, List.map_nil, List.sum_cons, List.sum_nil]
   omega
 have hfit : Fit [e'] := by
  rw [he']; refine ⟨by simp, ?_⟩
  simp [newSum]
  omega
 have hL := Lex_ev ((a ++ m) ++ b) (by omega); rw [if_neg (by omega), hTd] at hL
 have hc4 : chk4 (lexS T) [e'] = 0 := (by rw [chk4_lexS _ (by omega)]; exact hc)
 obtain ⟨n, x, y, hok, hR⟩ := Relex_ev (lexS T) [e'] (fine_lexS _ (by omega)) hfit hc4; have ht := hok.toks; rw [catS_lexS] at ht
 have happ : app (ba T) 0 [e'] = a.data.toList ++ ((m.data.toList.take F ++ (e.f2.data.toList ++ m.data.toList.drop To)) ++ b.data.toList) := by
  have hla : a.data.toList.length = a.size := isize a; have hlm : m.data.toList.length = m.size := isize m; rw [app, app, cutS_eq, cutS_end, ba_data, he']
  show ((T.take (e.f0 + (a.size : Int)).toNat).drop 0 ++ e.f2.data.toList) ++ T.drop (e.f1 + (a.size : Int)).toNat = _
  rw [show (e.f0 + (a.size : Int)).toNat = a.data.toList.length + F by omega, show (e.f1 + (a.size : Int)).toNat = a.data.toList.length + To by omega, hT, List.take_length_add_append, List.drop_length_add_append, List.take_append_of_le_length (by omega)]; have hd : List.drop To (m.data.toList ++ b.data.toList) = List.drop To m.data.toList ++ b.data.toList := List.drop_append_of_le_length (by omega); rw [hd]
  simp
 have hnl : (app (ba T) 0 [e']).length ≤ 20000 := by
  have hla : a.data.toList.length = a.size := isize a; have hlm : m.data.toList.length = m.size := isize m; have hlb : b.data.toList.length = b.size := isize b; have hle : e.f2.data.toList.length = e.f2.size := isize e.f2; rw [happ]; simp only [List.length_append, List.length_take, List.length_drop]
  omega
 obtain ⟨U, V, X, Y, hX, hN, hU, hV⟩ := less_lex a.data.toList b.data.toList a1 b1 m.data.toList (m.data.toList.take F ++ (e.f2.data.toList ++ m.data.toList.drop To)) ha hb; rw [← happ, ← ht] at hN; rw [← hT] at hX; have hj := less_j1 a b (lexS T) n U V X Y (by omega) (by omega) hX hN (by have := lexS_length T; omega) (by rw [ht]; have := lexS_length (app (ba T) 0 [e']); omega) hU hV; refine Ev.shift ?_; simp only [marginalialaw04_RelexLess.j0]; have hrd : rd_T39 [e] 0 = e := rfl; rw [hrd, w64 (n := e.f0 + (a.size : Int)) (by omega) (by omega), w64 (n := e.f1 + (a.size : Int)) (by omega) (by omega), ← he']; exact Ev.neg (by decide) (Ev.pos (by omega) (Ev.pos (by rw [ByteArray.size_append]; omega) (Ev.bind hL (Ev.pos (by simp) (Ev.bind hR (Ev.pos rfl hj))))))
theorem RelexLess : ∀ (a0 : ByteArray) (a1 : ByteArray) (a2 : ByteArray) (a3 : S39), OpG.okS a0 → OpG.okS a1 → OpG.okS a2 → ok39 a3 → ∃ k, marginalialaw04_RelexLess.f k a0 a1 a2 a3.f0 a3.f1 a3.f2 = some true := by
 intro a0 a1 a2 a3 h0 h1 h2 h3
 apply Ev.rounds
 have m0 : mn (a0.size : Int) 4000 = ((min a0.size 4000 : Nat) : Int) := mn_nat a0.size 4000; have m1 : mn (a1.size : Int) 4000 = ((min a1.size 4000 : Nat) : Int) := mn_nat a1.size 4000; have m2 : mn (a2.size : Int) 4000 = ((min a2.size 4000 : Nat) : Int) := mn_nat a2.size 4000; have hcut := Cut_ev [a3] 2000 (by simp); have hone : cut 2000 [a3] = [cutE 2000 a3] := rfl; rw [hone] at hcut
 have hE2 : (cutE 2000 a3).f2.size ≤ 2000 := (by show (a3.f2.extract 0 (min a3.f2.size 2000)).size ≤ 2000; rw [ByteArray.size_extract]; omega)
 obtain ⟨A, hA⟩ : ∃ A, A = a0.extract 0 (min a0.size 4000) := ⟨_, rfl⟩
 obtain ⟨M, hM⟩ : ∃ A, A = a1.extract 0 (min a1.size 4000) := ⟨_, rfl⟩
 obtain ⟨B, hB⟩ : ∃ A, A = a2.extract 0 (min a2.size 4000) := ⟨_, rfl⟩
 have zA : A.size ≤ 4000 := (by rw [hA, ByteArray.size_extract]; omega)
 have zM : M.size ≤ 4000 := (by rw [hM, ByteArray.size_extract]; omega)
 have zB : B.size ≤ 4000 := (by rw [hB, ByteArray.size_extract]; omega)
 unfold marginalialaw04_RelexLess.f; rw [m0, m1, m2]; simp only [Int.toNat_natCast, ← hA, ← hM, ← hB]; refine Ev.pos (by omega) (Ev.pos (by omega) (Ev.pos (by omega) (Ev.pos (by omega) (Ev.pos (by omega) (Ev.pos (by omega) (Ev.pos (by omega) (Ev.pos (by omega) (Ev.bind hcut (Ev.pos (by simp) ?_))))))))); have hrd : rd_T39 [cutE 2000 a3] 0 = cutE 2000 a3 := rfl; rw [hrd]; generalize cutE 2000 a3 = e at hE2; by_cases c1 : e.f0 < 0
 ·exact Ev.pos c1 (less_alive _ _ _ _)
 ·refine Ev.neg c1 ?_; by_cases c2 : e.f1 < e.f0
  ·exact Ev.pos c2 (less_alive _ _ _ _)
  ·refine Ev.neg c2 ?_; by_cases c3 : e.f1 > (M.size : Int)
   ·rw [decide_eq_true c3]; exact less_alive _ _ _ _
   ·rw [decide_eq_false c3]; refine less_j0 _ _ _ A.data.toList B.data.toList e ?_ ?_ ?_ (by omega) ?_ hE2 (by omega) (by omega) (by omega)
    ·simp
    ·simp
    ·rw [ByteArray.size_append]; show A.size + 1 ≤ 4001; omega
    ·rw [ByteArray.size_append]; show 1 + B.size ≤ 4001; omega
end Go.Proofs.Ytahcpappailjgaa.Pure

