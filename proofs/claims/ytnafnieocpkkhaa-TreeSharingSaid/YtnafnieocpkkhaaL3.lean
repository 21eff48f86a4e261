/- What the claim's row needs of the seat's texts, part 3: put together by a program of this session (declarations that no text of the claim names are left out). -/
import Derived.RangeFuncNested
import Derived.RangeFuncBound
import Derived.RangeFuncCalls
import Derived.RangeFuncLeaves
import Derived.Shelf.Abstract
import Derived.Shelf.RegionOpen
import Derived.OwnWalkIn
import Derived.TacticsInMore
import Derived.LoopNIn
import Derived.LoopIn
import Derived.Maps.AppendAt
import Derived.Lib.Varint
import Derived.Outline
import Derived.Deep.RegionLawGrows
import Derived.Deep.RegionHeld3
import Derived.Deep.DeepCutAuto
import Derived.Lib.SliceRun
import Derived.Test.YtnafnieocpkkhaaL2
set_option linter.unusedVariables false
set_option linter.unusedSimpArgs false
namespace Go.Proofs.Ytnafnieocpkkhaa.P
open Go Go.RowKit Go.Proofs.Ytnafnieocpkkhaa Go.Proofs.YtnafnieocpkkhaaW.PrintWords Go.Proofs.YtnafnieocpkkhaaW.PrintLast Go.Proofs.YtnafnieocpkkhaaW.PrintMore
open Go.Proofs.Ytnafnieocpkkhaa.Nums (num)
/-! ### varints are told apart -/
theorem u8_inj {a b : Nat} (ha : a < 256) (hb : b < 256) (h : a.toUInt8 = b.toUInt8) : a = b := by
 have h1 := congrArg UInt8.toNat h; simp only [Nat.toUInt8, UInt8.toNat_ofNat'] at h1
 omega
theorem uv_inj : ∀ (a b : Nat) (x y : Bs), Lib.uvarint a ++ x = Lib.uvarint b ++ y → a = b ∧ x = y := by
 intro a
 induction a using Nat.strongRecOn with
 | ind a ih =>
  intro b x y h; by_cases ha : a < 128
  ·rw [Lib.uvarint_small ha] at h; by_cases hb : b < 128
   ·rw [Lib.uvarint_small hb] at h; injection h with h1 h2; exact ⟨u8_inj (by omega) (by omega) h1, h2⟩
   ·rw [Lib.uvarint_big (by omega)] at h; injection h with h1 h2; have := u8_inj (by omega) (by omega) h1
    omega
  ·rw [Lib.uvarint_big (by omega)] at h; by_cases hb : b < 128
   ·rw [Lib.uvarint_small hb] at h; injection h with h1 h2; have := u8_inj (by omega) (by omega) h1
    omega
   ·rw [Lib.uvarint_big (x := b) (by omega)] at h; injection h with h1 h2; have h3 := u8_inj (by omega) (by omega) h1; obtain ⟨h4, h5⟩ := ih (a / 128) (by omega) (b / 128) x y h2; exact ⟨by omega, h5⟩
def flat (l : List Nat) : Bs := (l.map Lib.uvarint).flatten
theorem flat_cons (n : Nat) (l : List Nat) : flat (n :: l) = Lib.uvarint n ++ flat l := rfl
theorem flat_inj : ∀ (l m : List Nat) (x y : Bs), (∀ n ∈ l, n ≠ 0) → (∀ n ∈ m, n ≠ 0) → flat l ++ (Lib.uvarint 0 ++ x) = flat m ++ (Lib.uvarint 0 ++ y) → l = m ∧ x = y
 | [], [], x, y, _, _, h => ⟨rfl, (uv_inj 0 0 x y h).2⟩
 | [], b :: m, x, y, _, hm, h => by
  rw [flat_cons, List.append_assoc] at h; exact absurd (uv_inj 0 b _ _ h).1.symm (hm b List.mem_cons_self)
 | a :: l, [], x, y, hl, _, h => by
  rw [flat_cons, List.append_assoc] at h; exact absurd (uv_inj a 0 _ _ h).1 (hl a List.mem_cons_self)
 | a :: l, b :: m, x, y, hl, hm, h => by
  rw [flat_cons, flat_cons, List.append_assoc, List.append_assoc] at h; obtain ⟨h1, h2⟩ := uv_inj a b _ _ h; obtain ⟨h3, h4⟩ := flat_inj l m x y (fun n hn => hl n (List.mem_cons_of_mem _ hn)) (fun n hn => hm n (List.mem_cons_of_mem _ hn)) h2; exact ⟨by rw [h1, h3], h4⟩
/-! ### a Node's number in a list -/
open Classical in
noncomputable def posN : List Nd → Nd → Nat
 | [], _ => 0
 | k :: r, s => if k = s then 1 else (if posN r s = 0 then 0 else posN r s + 1)
theorem posN_mem : ∀ (l : List Nd) (s : Nd), posN l s ≠ 0 ↔ s ∈ l
 | [], s => by simp [posN]
 | k :: r, s => by
  have ih := posN_mem r s; rw [posN, List.mem_cons]; by_cases h : k = s
  ·simp [h]
  ·rw [if_neg h]; by_cases h2 : posN r s = 0
   ·rw [if_pos h2]
    have : s ∉ r := fun q => ih.mpr q h2
    simp [this, Ne.symm h]
   ·rw [if_neg h2]
    simp [ih.mp h2]
theorem posN_le : ∀ (l : List Nd) (s : Nd), posN l s ≤ l.length
 | [], s => Nat.le_refl _
 | k :: r, s => by
  have := posN_le r s; rw [posN, List.length_cons]
  split
  ·omega
  ·split <;> omega
theorem posN_append : ∀ (l t : List Nd) (s : Nd), s ∈ l → posN (l ++ t) s = posN l s
 | [], t, s, h => by cases h
 | k :: r, t, s, h => by
  rw [List.cons_append, posN, posN]; by_cases e : k = s
  ·simp [e]
  ·have hs : s ∈ r := by
    rcases List.mem_cons.mp h with q | q
    ·exact absurd q.symm e
    ·exact q
   rw [posN_append r t s hs]
theorem posN_snoc : ∀ (l : List Nd) (s : Nd), s ∉ l → posN (l ++ [s]) s = l.length + 1
 | [], s, _ => by simp [posN]
 | k :: r, s, h => by
  have h1 : ¬ k = s := fun q => h (by rw [q]; exact List.mem_cons_self)
  have h2 := posN_snoc r s (fun q => h (List.mem_cons_of_mem _ q)); rw [List.cons_append, posN, if_neg h1, h2, if_neg (by omega), List.length_cons]
theorem posN_inj : ∀ (l : List Nd) (s t : Nd), s ∈ l → posN l s = posN l t → s = t
 | [], s, t, h, _ => by cases h
 | k :: r, s, t, h, e => by
  rw [posN, posN] at e; by_cases h1 : k = s
  ·rw [if_pos h1] at e; by_cases h2 : k = t
   ·rw [← h1, h2]
   ·rw [if_neg h2] at e
    split at e <;> omega
  ·have hs : s ∈ r := by
    rcases List.mem_cons.mp h with q | q
    ·exact absurd q.symm h1
    ·exact q
   have hz := (posN_mem r s).mpr hs; rw [if_neg h1, if_neg hz] at e; by_cases h2 : k = t
   ·rw [if_pos h2] at e
    omega
   ·rw [if_neg h2] at e
    split at e
    ·omega
    ·exact posN_inj r s t hs (by omega)
theorem num_map (g : Nd → ByteArray) (s : ByteArray) (n : Nd) : ∀ l : List Nd, (∀ x ∈ l, g x = s ↔ x = n) → num (l.map g) s = posN l n
 | [], _ => rfl
 | k :: r, h => by
  have ih := num_map g s n r (fun x hx => h x (List.mem_cons_of_mem _ hx)); have hk := h k List.mem_cons_self; rw [List.map_cons, Nums.num, posN, ih]; by_cases e : k = n
  ·rw [if_pos e, if_pos (hk.mpr e)]
  ·rw [if_neg e, if_neg (fun q => e (hk.mp q))]
/-! ### keys -/
noncomputable def keyN (l : List Nd) (n : Nd) : ByteArray := tree_Shared.key (Lib.uvarint n.f0.toNat ++ Lib.uvarint n.f1.f0.toNat ++ flat (n.f2.map (posN l))) n.f1.f1
def KdOK (n : Nd) : Prop := (0 ≤ n.f0 ∧ n.f0 ≤ 1000000) ∧ 0 ≤ n.f1.f0 ∧ n.f1.f0 ≤ 1000000
theorem map_pos_inj (l : List Nd) : ∀ (a b : List Nd), (∀ x ∈ a, x ∈ l) → a.map (posN l) = b.map (posN l) → a = b
 | [], [], _, _ => rfl
 | [], y :: b, _, h => by cases h
 | x :: a, [], _, h => by cases h
 | x :: a, y :: b, ha, h => by
  rw [List.map_cons, List.map_cons] at h; injection h with h1 h2; rw [posN_inj l x y (ha x List.mem_cons_self) h1, map_pos_inj l a b (fun z hz => ha z (List.mem_cons_of_mem _ hz)) h2]
theorem key_inj {l : List Nd} {x y : Nd} (hx : ∀ z ∈ x.f2, z ∈ l) (hy : ∀ z ∈ y.f2, z ∈ l) (kx : KdOK x) (ky : KdOK y) (h : keyN l x = keyN l y) : x = y := by
 unfold keyN tree_Shared.key at h; have h := congrArg (fun b : ByteArray => b.data.toList) h; simp only [List.append_assoc] at h; obtain ⟨h1, h⟩ := uv_inj _ _ _ _ h; obtain ⟨h2, h⟩ := uv_inj _ _ _ _ h
 obtain ⟨h3, h4⟩ := flat_inj _ _ _ _ (fun n hn => by
  obtain ⟨z, hz, rfl⟩ := List.mem_map.mp hn
  exact (posN_mem l z).mpr (hx z hz)) (fun n hn => by
  obtain ⟨z, hz, rfl⟩ := List.mem_map.mp hn
  exact (posN_mem l z).mpr (hy z hz)) h
 have h5 := map_pos_inj l _ _ hx h3; have h6 : x.f1.f1 = y.f1.f1 := ByteArray.ext (Array.ext' h4); obtain ⟨⟨a1, a2⟩, a3, a4⟩ := kx; obtain ⟨⟨b1, b2⟩, b3, b4⟩ := ky
 have h7 : x.f0 = y.f0 := (by omega)
 have h8 : x.f1.f0 = y.f1.f0 := (by omega)
 obtain ⟨x0, ⟨x1, x2⟩, x3⟩ := x; obtain ⟨y0, ⟨y1, y2⟩, y3⟩ := y; simp only at h5 h6 h7 h8; rw [h5, h6, h7, h8]
theorem key_append {l t : List Nd} {n : Nd} (h : ∀ y ∈ n.f2, y ∈ l) : keyN (l ++ t) n = keyN l n := by
 unfold keyN; rw [List.map_congr_left (fun y hy => posN_append l t y (h y hy))]
/-! ### depth -/
def dp (n : Nd) : Nat := (n.f2.attach.map fun x => dp x.1 + 1).foldr max 0
termination_by SizeOf.sizeOf n
decreasing_by exact Nd.lt_of_mem x.2
theorem dp_eq (n : Nd) : dp n = (n.f2.map fun x => dp x + 1).foldr max 0 := by
 rw [dp]
 congr 1
 exact List.attach_map_val (f := fun x => dp x + 1)
theorem dps_le {b : Nat} : ∀ (l : List Nd), (∀ x ∈ l, dp x + 1 ≤ b) → (l.map fun x => dp x + 1).foldr max 0 ≤ b
 | [], _ => Nat.zero_le _
 | x :: r, h => by
  have h1 := h x List.mem_cons_self; have h2 := dps_le r (fun y hy => h y (List.mem_cons_of_mem _ hy)); rw [List.map_cons, List.foldr_cons]
  omega
/-- The list of the other side and the keys of the map. -/
structure Inv (l : List Nd) (ks : List ByteArray) : Prop where
 keys : ks = l.map (keyN l)
 kids : ∀ x ∈ l, ∀ y ∈ x.f2, y ∈ l
 kd : ∀ x ∈ l, KdOK x ∧ sm x
 dep : ∀ (j : Nat) (x : Nd), l[j]? = some x → dp x ≤ j
theorem Inv.nil : Inv [] [] := ⟨rfl, (by simp), (by simp), (by simp)⟩
theorem Inv.len {l : List Nd} {ks : List ByteArray} (h : Inv l ks) : ks.length = l.length := by rw [h.keys, List.length_map]
theorem Inv.num {l : List Nd} {ks : List ByteArray} (h : Inv l ks) {n : Nd} (hn : ∀ y ∈ n.f2, y ∈ l) (kn : KdOK n) : num ks (keyN l n) = posN l n := by
 rw [h.keys]; exact num_map _ _ _ l (fun x hx => ⟨fun q => key_inj (h.kids x hx) hn (h.kd x hx).1 kn q, fun q => by rw [q]⟩)
theorem Inv.snoc {l : List Nd} {ks : List ByteArray} (h : Inv l ks) {n : Nd} (hn : ∀ y ∈ n.f2, y ∈ l) (kn : KdOK n) (hs : sm n) : Inv (l ++ [n]) (ks ++ [keyN l n]) := by
 refine ⟨?_, ?_, ?_, ?_⟩
 ·rw [List.map_append, List.map_cons, List.map_nil, key_append hn, h.keys]
  congr 1
  exact List.map_congr_left (fun x hx => (key_append (h.kids x hx)).symm)
 ·intro x hx y hy
  rcases List.mem_append.mp hx with q | q
  ·exact List.mem_append_left _ (h.kids x q y hy)
  ·rw [List.mem_singleton.mp q] at hy; exact List.mem_append_left _ (hn y hy)
 ·intro x hx
  rcases List.mem_append.mp hx with q | q
  ·exact h.kd x q
  ·rw [List.mem_singleton.mp q]; exact ⟨kn, hs⟩
 ·intro j x hj; by_cases hl : j < l.length
  ·rw [List.getElem?_append_left hl] at hj; exact h.dep j x hj
  ·have h2 : j = l.length := by
    have := (List.getElem?_eq_some_iff.mp hj).1; rw [List.length_append, List.length_singleton] at this
    omega
   subst h2; rw [List.getElem?_append_right (Nat.le_refl _), Nat.sub_self] at hj; injection hj with hj; subst hj; rw [dp_eq]; refine dps_le _ (fun y hy => ?_); obtain ⟨i, hi, e⟩ := List.getElem_of_mem (hn y hy); have := h.dep i y (by rw [List.getElem?_eq_getElem hi, e])
   omega
theorem has_ev (n : Nd) : ∀ l : List Nd, (∀ x ∈ l, sm x) → ∃ b, Ev (fun k => marginaliaref05_Shared.has k n l) b ∧ (b = true ↔ n ∈ l)
 | [], _ => ⟨false, Ev.now _, by simp⟩
 | x :: r, h => by
  obtain ⟨t, hE, ht⟩ := rsame_ev x (h x List.mem_cons_self) n; obtain ⟨b, hb, hbt⟩ := has_ev n r (fun y hy => h y (List.mem_cons_of_mem _ hy)); simp only [marginaliaref05_Shared.has]; by_cases e : t = true
  ·refine ⟨true, Ev.bind hE (Ev.pos e (Ev.now _)), ?_⟩
   simp [ht.mp e]
  ·refine ⟨b, Ev.bind hE (Ev.neg e hb), ?_⟩; rw [hbt, List.mem_cons]; exact ⟨.inr, fun q => q.elim (fun q => absurd (ht.mpr q.symm) e) id⟩
def Jn (n : Nd) : Prop := ∀ (l : List Nd) (ks : List ByteArray), Inv l ks → l.length + nd n ≤ 1000000 →
 ∃ t ks', Inv (l ++ t) ks' ∧ t.length ≤ nd n ∧ n ∈ l ++ t ∧ (n ∈ l → t = []) ∧ Ev (fun k => marginaliaref05_Shared.go k n l) (l ++ t) ∧ Ev (fun k => tree_Shared.go k n ks) (posN (l ++ t) n, ks')
theorem jn_kids : ∀ (r : List Nd), (∀ x ∈ r, Jn x) → ∀ (l : List Nd) (ks : List ByteArray) (pre : Bs), Inv l ks → l.length + (r.map nd).sum ≤ 1000000 → pre.length + 10 * r.length ≤ 100000000000 →
  ∃ t ks', Inv (l ++ t) ks' ∧ t.length ≤ (r.map nd).sum ∧ (∀ x ∈ r, x ∈ l ++ t) ∧ ((∀ x ∈ r, x ∈ l) → t = []) ∧ Ev (fun k => marginaliaref05_Shared.kids (marginaliaref05_Shared.go k) r l) (l ++ t) ∧ Ev (fun k => tree_Shared.kids (tree_Shared.go k) r ks pre) (ks', pre ++ flat (r.map (posN (l ++ t))))
 | [], _, l, ks, pre, hI, _, _ => ⟨[], ks, by rw [List.append_nil]; exact hI, Nat.zero_le _, (by simp), fun _ => rfl, by
   rw [List.append_nil]
   exact Ev.now _, by
   simp only [List.map_nil, flat, List.flatten_nil, List.append_nil]
   exact Ev.now _⟩
 | x :: r, hJ, l, ks, pre, hI, hl, hp => by
  rw [List.map_cons, List.sum_cons] at hl; rw [List.length_cons] at hp; obtain ⟨t, ks1, hI1, ht, hx, hx0, hE1, hE2⟩ := hJ x List.mem_cons_self l ks hI (by omega); have hle := posN_le (l ++ t) x; rw [List.length_append] at hle; have hu := vi_len (posN (l ++ t) x) (by omega); obtain ⟨t2, ks2, hI2, ht2, hr, hr0, hF1, hF2⟩ := jn_kids r (fun y hy => hJ y (List.mem_cons_of_mem _ hy)) (l ++ t) ks1 (pre ++ Lib.uvarint (posN (l ++ t) x)) hI1 (by rw [List.length_append]; omega) (by rw [List.length_append]; omega); have hpx := posN_append (l ++ t) t2 x hx; rw [List.append_assoc l t t2] at hI2 hr hF1 hF2 hpx; refine ⟨t ++ t2, ks2, hI2, ?_, ?_, ?_, ?_, ?_⟩
  ·rw [List.map_cons, List.sum_cons, List.length_append]
   omega
  ·intro y hy
   rcases List.mem_cons.mp hy with q | q
   ·rw [q, ← List.append_assoc]; exact List.mem_append_left _ hx
   ·exact hr y q
  ·intro hy; have h1 := hx0 (hy x List.mem_cons_self); have h2 := hr0 (fun y hy' => List.mem_append_left _ (hy y (List.mem_cons_of_mem _ hy'))); rw [h1, h2]; rfl
  ·simp only [marginaliaref05_Shared.kids]; exact Ev.bind hE1 hF1
  ·simp only [tree_Shared.kids]; rw [List.map_cons, flat_cons, hpx, ← List.append_assoc]; exact Ev.bind hE2 (Ev.pos ⟨by show posN (l ++ t) x ≤ 1000000; omega, by show pre.length + (Lib.uvarint (posN (l ++ t) x)).length ≤ _; omega⟩ hF2)
theorem jn : ∀ n, (∀ m : Nd, isF m → KdOK m) → isF n → sm n → Jn n := by
 intro n hK
 revert n
 refine Nd.ind ?_; intro n ih hF hs l ks hI hl; have hn := nd_eq n; have hlen := hs.len; have htx := hs.text; have kn := hK n hF; have hu1 := vi_len n.f0.toNat (by have := kn.1.2; omega); have hu2 := vi_len n.f1.f0.toNat (by have := kn.2.2; omega); obtain ⟨t, ks1, hI1, ht, hx, hx0, hE1, hE2⟩ := jn_kids n.f2 (fun x hx => ih x hx (hF.kid hx) (hs.kid hx)) l ks (Lib.uvarint n.f0.toNat ++ Lib.uvarint n.f1.f0.toNat) hI (by omega) (by rw [List.length_append]; omega); obtain ⟨b, hb, hbt⟩ := has_ev n (l ++ t) (fun x hx => (hI1.kd x hx).2); have hnum := hI1.num hx kn; have hln := hI1.len; rw [List.length_append] at hln
 have hfl : (flat (n.f2.map (posN (l ++ t)))).length ≤ 10 * n.f2.length := by
  have : ∀ r : List Nd, (flat (r.map (posN (l ++ t)))).length ≤ 10 * r.length := by
   intro r
   induction r with
   | nil => exact Nat.le_refl _
   | cons y r ih =>
    have h1 := posN_le (l ++ t) y; rw [List.length_append] at h1; have := vi_len (posN (l ++ t) y) (by omega); rw [List.map_cons, flat_cons, List.length_append, List.length_cons]
    omega
  exact this _
 have hkey : tree_Shared.key (Lib.uvarint n.f0.toNat ++ Lib.uvarint n.f1.f0.toNat ++ flat (n.f2.map (posN (l ++ t)))) n.f1.f1 = keyN (l ++ t) n := rfl
 have hsz : (Lib.uvarint n.f0.toNat ++ Lib.uvarint n.f1.f0.toNat ++ flat (n.f2.map (posN (l ++ t)))).length + 1 + n.f1.f1.size ≤ 1000000000000 := by
  rw [List.length_append, List.length_append]
  omega
 by_cases h : n ∈ l ++ t
 ·have hp := (posN_mem _ _).mpr h; refine ⟨t, ks1, hI1, by omega, h, ?_, Ev.shift ?_, Ev.shift ?_⟩
  ·intro q; exact hx0 (fun y hy => hI.kids n q y hy)
  ·simp only [marginaliaref05_Shared.go]; exact Ev.bind hE1 (Ev.bind hb (Ev.pos (hbt.mpr h) (Ev.now _)))
  ·simp only [tree_Shared.go]; refine Ev.pos ⟨kn.1.1, kn.1.2, kn.2.1, kn.2.2⟩ (Ev.bind hE2 (Ev.pos ⟨hsz, by show ks1.length ≤ _; omega⟩ ?_)); dsimp only; rw [hkey, hnum]; exact Ev.neg hp (Ev.now _)
 ·have hp : posN (l ++ t) n = 0 := Classical.byContradiction fun q => h ((posN_mem _ _).mp q)
  refine ⟨t ++ [n], ks1 ++ [keyN (l ++ t) n], ?_, ?_, ?_, ?_, Ev.shift ?_, Ev.shift ?_⟩
  ·rw [← List.append_assoc]; exact hI1.snoc hx kn hs
  ·rw [List.length_append, List.length_singleton]
   omega
  ·simp
  ·intro q; exact absurd (List.mem_append_left _ q) h
  ·simp only [marginaliaref05_Shared.go]; rw [← List.append_assoc]; exact Ev.bind hE1 (Ev.bind hb (Ev.neg (fun q => h (hbt.mp q)) (Ev.pos (by rw [List.length_append]; omega) (Ev.now _))))
  ·simp only [tree_Shared.go]; refine Ev.pos ⟨kn.1.1, kn.1.2, kn.2.1, kn.2.2⟩ (Ev.bind hE2 (Ev.pos ⟨hsz, by show ks1.length ≤ _; omega⟩ ?_)); dsimp only; rw [hkey, hnum, ← List.append_assoc, posN_snoc _ _ h, List.length_append, hln]; exact Ev.pos hp (Ev.now _)
/-! ### both sides -/
theorem gd_kind (l : Bs) : 0 ≤ (gd l).1 ∧ (gd l).1 ≤ 8 := by
 cases l with
 | nil => exact ⟨by decide, by decide⟩
 | cons c r =>
  rw [gd_cons]
  (repeat' split) <;> exact ⟨by simp, by simp⟩
theorem nx_kind (l : Bs) : 0 ≤ (nx l).1 ∧ (nx l).1 ≤ 8 := by
 cases l with
 | nil => exact ⟨by decide, by decide⟩
 | cons c r =>
  rw [nx_cons]
  split
  ·exact gd_kind _
  ·split <;> exact ⟨by simp, by simp⟩
theorem isF.kd {n : Nd} (h : isF n) : KdOK n := by
 by_cases h1 : n.f0 = 1
 ·obtain ⟨m, hm⟩ := h
  cases m with
  | zero => cases hm
  | succ m =>
   rw [fo, if_pos h1, Bool.and_eq_true] at hm; have h2 := of_decide_eq_true hm.2; have h3 := nx_kind n.f1.f1.data.toList; rw [h2.2.2] at h3; exact ⟨⟨by omega, by omega⟩, h3.1, by have := h3.2; show n.f1.f0 ≤ 1000000; omega⟩
 ·have h2 := (isF.node h h1).2; obtain ⟨m, hm⟩ := h
  cases m with
  | zero => cases hm
  | succ m =>
   rw [fo, if_neg h1, Bool.and_eq_true, Bool.and_eq_true, Bool.and_eq_true] at hm; have h3 := of_decide_eq_true hm.1.1.1; exact ⟨⟨by omega, by omega⟩, by omega, by omega⟩
theorem jn_of {n : Nd} (h : fmd n = true) (hs : sm n) : Jn n := jn n (fun _ => isF.kd) (isF.of_fmd h) hs
theorem bad_ev : ∀ l : List Nd, (∀ x ∈ l, sm x) → Ev (fun k => tree_Shared.bad k l) (!(l.all fmd))
 | [], _ => Ev.now _
 | x :: r, h => by
  have hb := bad_ev r (fun y hy => h y (List.mem_cons_of_mem _ hy)); simp only [tree_Shared.bad]; refine Ev.bind (IsFormed_ev x (h x List.mem_cons_self)) ?_; by_cases e : fmd x = true
  ·refine Ev.pos e ?_; rw [List.all_cons, e, Bool.true_and]; exact hb
  ·refine Ev.neg e ?_; rw [List.all_cons, Bool.eq_false_iff.mpr e, Bool.false_and]; exact Ev.now _
theorem Shared_bad (l : List Nd) (h12 : l.length ≤ 12) (hs : ∀ x ∈ l, sm x) (hf : l.all fmd = false) : Ev (fun k => tree_Shared.f k l) (0, 4) := by
 have hb := bad_ev l hs; rw [hf] at hb; unfold tree_Shared.f; exact Ev.neg (by omega) (Ev.bind hb (Ev.pos (by decide) (Ev.now _)))
end Go.Proofs.Ytnafnieocpkkhaa.P

namespace Go.Proofs.Ytnafnieocpkkhaa.P
open Go.RowKit Go.Proofs.YtnafnieocpkkhaaW.PrintWords Go.Proofs.YtnafnieocpkkhaaW.PrintLast Go.Proofs.YtnafnieocpkkhaaW.PrintMore
attribute [local go_sem] max2_int min2_int max_two min_two max_three min_three max_four min_four
set_option linter.unusedVariables false
set_option linter.unusedSimpArgs false

def tree_text.all (g : S26 → List UInt8 → Option (List UInt8)) : List (S26) → List UInt8 → Option (List UInt8)
 | [], acc => some acc
 | x :: r, acc => (g x acc).bind fun a => tree_text.all g r a
def tree_text.go : Nat → S26 → List UInt8 → Option (List UInt8)
 | 0, _, _ => none
 | k + 1, n, acc => if acc.length + n.f1.f1.size ≤ 140737488355328 then tree_text.all (tree_text.go k) n.f2 (acc ++ n.f1.f1.data.toList) else none
def tree_text.f (k : Nat) (a0_0 : Int) (a0_1 : Int) (a0_2 : ByteArray) (l0_3 : List (S26)) : Option (ByteArray) := (tree_text.go k ⟨a0_0, ⟨a0_1, a0_2⟩, l0_3⟩ []).bind fun l => some ⟨l.toArray⟩
def tree_text.Holds (k : Nat) (w0 : World) (b : Nat) : Prop := ∀ (n : S26) (A : Option Addr) (cc : Nat) (acc r : List UInt8) (w : World), n.f2.length ≤ cc → Kd.C k26 w0 A n.f2.length n.f2 → Below w0.heap.size w0 w → Bld.IsB w0.heap.size b acc w → tree_text.go k n acc = some r →
 Calls Try.prog 83 #[.pointer (some ⟨b, 0, none⟩), .agg #[.int .i64 n.f0, .int .i64 n.f1.f0, .string n.f1.f1, .slice A n.f2.length cc]] w fun e w' => e = .returned (.tuple #[]) ∧ Bld.IsB w0.heap.size b r w' ∧ Below w0.heap.size w0 w'
set_option maxHeartbeats 8000000 in
set_option maxRecDepth 100000 in
theorem tree_text.write_ok (w0 : World) (b : Nat) : ∀ k, tree_text.Holds k w0 b := by
 have hu := Try.underlying26; have hu2 := Try.underlying23; intro k
 induction k with
 | zero =>
  intro n A cc acc r w hcc hC hB hI h
  simp [tree_text.go] at h
 | succ k ih =>
  intro n A cc acc r w hcc hC hB hI h; rw [tree_text.go] at h; obtain ⟨hlen, h⟩ := Ut.ite_some h; have HH := Aside0.mk h; have HC := Aside0.mk hC; have IH := Aside0.mk ih; have hmax : n.f2.length ≤ 9223372036854775807 := hC.2.1; have HB := Aside0.mk (below_alloc hB (.cells #[.int .i64 n.f0, .int .i64 n.f1.f0, .string n.f1.f1, .slice A n.f2.length cc] 26)); have HI := Aside0.mk (hI.alloc (.cells #[.int .i64 n.f0, .int .i64 n.f1.f0, .string n.f1.f1, .slice A n.f2.length cc] 26)); have HO := Aside0.mk (blk_new w (.cells #[.int .i64 n.f0, .int .i64 n.f1.f0, .string n.f1.f1, .slice A n.f2.length cc] 26)); have hbl := hI.lt; have HNE := Aside0.mk (show w.heap.size ≠ b by omega); clear h hC ih hB hI hbl; go_enter Try.func83, Try.ntmps83
  go_wp2_with (go_at_call 92; refine (Bld.write w0.heap.size b acc n.f1.f1 _ HI.out hlen (below_size HB.out)).mono ?_; rintro e w1 ⟨rfl, hI1, hb1, hk1⟩; have HI1 := Aside0.mk hI1; have HB1 := Aside0.mk (HB.out.trans hb1); have z3 : w1.cell? ⟨w.heap.size, 3, none⟩ = some (.slice A n.f2.length cc) := Lib.cell_of_heap (hk1 _ _ HO.out (fun e => HNE.out (Option.some.inj e)) (by intro c fz e; injection e with _ e2; exact absurd e2 (by decide))) 3; clear hI1 hb1 hk1)
  go_loopg [14] n.f2.length (fun kq v14 w' => ∃ (i : Nat) (ac : List UInt8), v14 = .int .i64 (i : Int) ∧ Aside0 (i + kq = n.f2.length) ∧ Aside0 (tree_text.all (tree_text.go k) (n.f2.drop i) ac = some r) ∧ Aside0 (Bld.IsB w0.heap.size b ac w') ∧ Aside0 (Below w0.heap.size w0 w'))
  case atStart => exact ⟨0, _, rfl, ⟨by omega⟩, HH, HI1, HB1⟩
  case round =>
   clear HH HI HB HI1 HB1 z3; obtain ⟨i, ac, rfl, HK, HH, HI, HB⟩ := hrel; by_cases hlt : i < n.f2.length
   ·have hd1 : decide ((i : Int) < (n.f2.length : Int)) = true := decide_eq_true (by omega); have H := HH.out; rw [List.drop_eq_getElem_cons hlt] at H; simp only [tree_text.all] at H; obtain ⟨a, ha, Hn⟩ := Option.bind_eq_some_iff.mp H; clear H
    have hrd : rd_T26 n.f2 (i : Int) = n.f2[i] := (by simp [rd_T26, hlt])
    obtain ⟨ad, A3, c3, e, hx0, hx1, hx2, hx3, hl3, hC3⟩ := at_T26 HC.out (i : Int) (by omega) (by omega); rw [hrd] at hx0 hx1 hx2 hx3 hl3 hC3; rw [Int.toNat_natCast] at hx0 hx1 hx2 hx3
    cases e
    replace hx0 := (HB.out.cell (World.block_lt_of_cell? w0 _ hx0)).trans hx0; replace hx1 := (HB.out.cell (World.block_lt_of_cell? w0 _ hx1)).trans hx1; replace hx2 := (HB.out.cell (World.block_lt_of_cell? w0 _ hx2)).trans hx2; replace hx3 := (HB.out.cell (World.block_lt_of_cell? w0 _ hx3)).trans hx3; clear hrd HH; generalize n.f2[i] = x at *; have HCall := Aside0.mk (IH.out x A3 c3 ac a (wr.alloc (.cells #[.int .i64 x.f0, .int .i64 x.f1.f0, .string x.f1.f1, .slice A3 x.f2.length c3] 26)) hl3 hC3 (below_alloc HB.out _) (HI.out.alloc _) ha); have HH2 := Aside0.mk Hn; clear Hn ha hl3 hC3
    cases gk with
    | zero => exact absurd hlt (by have := HK.out; omega)
    | succ kq' =>
    go_wp2_with (go_at_call 83; refine HCall.out.mono ?_; rintro e w2 ⟨rfl, h1, h2⟩; have H1 := Aside0.mk h1; have H2 := Aside0.mk h2; clear h1 h2)
    go_roundg kq'
    case measure => omega
    case rel => exact ⟨i + 1, _, by go_num, ⟨by have := HK.out; omega⟩, HH2, H1, H2⟩
   ·have hd1 : decide ((i : Int) < (n.f2.length : Int)) = false := decide_eq_false (by omega); have H := HH.out; rw [List.drop_of_length_le (by have := HK.out; omega)] at H; simp only [tree_text.all, Option.some.injEq] at H; subst H; go_wp2_with fail; go_end0; exact ⟨rfl, HI.out, HB.out⟩
set_option maxHeartbeats 8000000 in
set_option maxRecDepth 100000 in
theorem tree_text.calls (k : Nat) (a0_0 : Int) (a0_1 : Int) (a0_2 : ByteArray) (A0_3 : Option Addr) (c0_3 : Nat) (l0_3 : List (S26)) (r : ByteArray) (w : World) (hr0_3 : Kd.C k26 w A0_3 l0_3.length l0_3) (hc0_3 : l0_3.length ≤ c0_3) (h : tree_text.f k a0_0 a0_1 a0_2 l0_3 = some r) :
  Calls Try.prog 61 #[.agg #[.int .i64 a0_0, .int .i64 a0_1, .string a0_2, .slice A0_3 l0_3.length c0_3]] w fun e w' => e = .returned (.string r) ∧ Below w.heap.size w w' := by
 have hu := Try.underlying26; obtain ⟨l, hl, h⟩ := Option.bind_eq_some_iff.mp h; injection h with h; subst h; have hB := below_alloc (below_alloc (Below.refl w.heap.size w) (.cells #[.int .i64 a0_0, .int .i64 a0_1, .string a0_2, .slice A0_3 l0_3.length c0_3] 26)) (.cells #[.pointer none, .slice none 0 0] 114)
 have hI : Bld.IsB w.heap.size (w.heap.size + 1) [] ((w.alloc (.cells #[.int .i64 a0_0, .int .i64 a0_1, .string a0_2, .slice A0_3 l0_3.length c0_3] 26)).alloc (.cells #[.pointer none, .slice none 0 0] 114)) := by
  have := Bld.IsB.new (B := w.heap.size) (w := w.alloc (.cells #[.int .i64 a0_0, .int .i64 a0_1, .string a0_2, .slice A0_3 l0_3.length c0_3] 26)) (by simp)
  simpa using this
 have HF := Aside0.mk (tree_text.write_ok w (w.heap.size + 1) k ⟨a0_0, ⟨a0_1, a0_2⟩, l0_3⟩ A0_3 c0_3 [] l _ hc0_3 hr0_3 hB hI hl); clear hl hB hI hr0_3; go_enter Try.func61, Try.ntmps61
 go_wp2_with (first | (go_at_call 83; refine HF.out.mono ?_; rintro e w1 ⟨rfl, h1, h2⟩; have HI := Aside0.mk h1; have HB := Aside0.mk h2; clear h1 h2) | (go_at_call 84; refine (Bld.string w.heap.size (w.heap.size + 1) l _ HI.out (below_size HB.out)).mono ?_; rintro e w2 ⟨rfl, hb2⟩; have HB2 := Aside0.mk (HB.out.trans hb2); clear hb2))
 go_ret; exact ⟨rfl, HB2.out⟩

end Go.Proofs.Ytnafnieocpkkhaa.P

namespace Go.Proofs.Ytnafnieocpkkhaa.P
open Go.RowKit Go.Proofs.YtnafnieocpkkhaaW.PrintWords Go.Proofs.YtnafnieocpkkhaaW.PrintLast Go.Proofs.YtnafnieocpkkhaaW.PrintMore
attribute [local go_sem] max2_int min2_int max_two min_two max_three min_three max_four min_four
set_option linter.unusedVariables false
set_option linter.unusedSimpArgs false

/-! ### tree_Text: function 26 -/
def tree_Text.f (k : Nat) (a0_0 : Int) (a0_1 : Int) (a0_2 : ByteArray) (l0_3 : List (S26)) : Option (ByteArray × Int) := (tree_IsFormed.f k a0_0 a0_1 a0_2 l0_3).bind fun t233 => (if t233 = true then ((tree_text.f k a0_0 a0_1 a0_2 l0_3).bind fun t234 => (some (t234, 0))) else (some ((⟨#[]⟩ : ByteArray), 4)))
set_option maxHeartbeats 8000000 in
set_option maxRecDepth 100000 in
theorem tree_Text.calls (k : Nat) (a0_0 : Int) (a0_1 : Int) (a0_2 : ByteArray) (A0_3 : Option Addr) (c0_3 : Nat) (l0_3 : List (S26)) (r1 : ByteArray) (r2 : Int) (w : World) (hr0_3 : Kd.C k26 w A0_3 l0_3.length l0_3) (hc0_3 : l0_3.length ≤ c0_3) (h : tree_Text.f k a0_0 a0_1 a0_2 l0_3 = some (r1, r2)) :
  Calls Try.prog 26 #[.agg #[.int .i64 a0_0, .int .i64 a0_1, .string a0_2, .slice A0_3 l0_3.length c0_3]] w fun e w' => e = .returned (.tuple #[.string r1, .int .i64 r2]) ∧ Below w.heap.size w w' := by
 have hu26 := Try.underlying26; have HR0_3 := Aside0.mk hr0_3; have HC0_3 := Aside0.mk hc0_3; clear hr0_3 hc0_3; have HB := Aside0.mk (Below.refl w.heap.size w); have H : ((tree_IsFormed.f k a0_0 a0_1 a0_2 l0_3).bind fun t233 => (if t233 = true then ((tree_text.f k a0_0 a0_1 a0_2 l0_3).bind fun t234 => (some (t234, 0))) else (some ((⟨#[]⟩ : ByteArray), 4)))) = some (r1, r2) := h; clear h; replace H := zo H; obtain ⟨t233, A2, H⟩ := H; by_cases c3 : t233 = true
 ·subst c3; rw [if_pos rfl] at H; replace H := zo H; obtain ⟨t234, A4, H⟩ := H; simp only [Option.some.injEq, Prod.mk.injEq] at H; obtain ⟨rfl, rfl⟩ := H; go_enter Try.func26, Try.ntmps26
  go_wp2_with (first | ((with_reducible refine zD 1 rfl ?_); refine zx 1 #[.int .i64 a0_0, .int .i64 a0_1, .string a0_2, .slice A0_3 l0_3.length c0_3] 26 ?_; intro gb232 hg w5 hbox hb; have BK232 := Aside0.mk (hbox); have GW232 := (zq hg : Aside0 (w.heap.size ≤ gb232)); have GE232 := GW232; replace HB := (zB hb); clear hb hbox hg; obtain ⟨hcz6_0, hcz6_1, hcz6_2, hcz6_3⟩ := zc4 BK232; obtain ⟨hfz6_0, hfz6_1, hfz6_2, hfz6_3⟩ := zz4 BK232) | ((with_reducible refine zG 30 rfl ?_); refine zg 5 Try.func30 ((tree_IsFormed.calls k a0_0 a0_1 a0_2 _ _ l0_3 true _ ?side1 ?side2 A2.out).mono ?_); (case side1 => exact zC HR0_3); (case side2 => exact HC0_3.out); rintro e w7 ⟨rfl, hb⟩; refine ⟨_, rfl, ?_⟩; replace BK232 := (zK BK232 hb); replace HB := (zB hb); (try clear hb); (try clear hb2); (try clear hk); (try clear hi); obtain ⟨hcz8_0, hcz8_1, hcz8_2, hcz8_3⟩ := zc4 BK232; obtain ⟨hfz8_0, hfz8_1, hfz8_2, hfz8_3⟩ := zz4 BK232) | ((with_reducible refine zG 61 rfl ?_); refine zg 8 Try.func61 ((tree_text.calls k a0_0 a0_1 a0_2 _ _ l0_3 t234 _ ?side1 ?side2 A4.out).mono ?_); (case side1 => exact zC HR0_3); (case side2 => exact HC0_3.out); rintro e w9 ⟨rfl, hb⟩; refine ⟨_, rfl, ?_⟩; replace BK232 := (zK BK232 hb); replace HB := (zB hb); (try clear hb); (try clear hb2); (try clear hk); (try clear hi)))
  go_ret2
  exact ⟨zr, zb⟩
 ·replace c3 := Bool.eq_false_iff.mpr c3; subst c3; replace H := zf H; simp only [Option.some.injEq, Prod.mk.injEq] at H; obtain ⟨rfl, rfl⟩ := H; go_enter Try.func26, Try.ntmps26
  go_wp2_with (first | ((with_reducible refine zD 1 rfl ?_); refine zx 1 #[.int .i64 a0_0, .int .i64 a0_1, .string a0_2, .slice A0_3 l0_3.length c0_3] 26 ?_; intro gb232 hg w10 hbox hb; have BK232 := Aside0.mk (hbox); have GW232 := (zq hg : Aside0 (w.heap.size ≤ gb232)); have GE232 := GW232; replace HB := (zB hb); clear hb hbox hg; obtain ⟨hcz11_0, hcz11_1, hcz11_2, hcz11_3⟩ := zc4 BK232; obtain ⟨hfz11_0, hfz11_1, hfz11_2, hfz11_3⟩ := zz4 BK232) | ((with_reducible refine zG 30 rfl ?_); refine zg 5 Try.func30 ((tree_IsFormed.calls k a0_0 a0_1 a0_2 _ _ l0_3 false _ ?side1 ?side2 A2.out).mono ?_); (case side1 => exact zC HR0_3); (case side2 => exact HC0_3.out); rintro e w12 ⟨rfl, hb⟩; refine ⟨_, rfl, ?_⟩; replace BK232 := (zK BK232 hb); replace HB := (zB hb); (try clear hb); (try clear hb2); (try clear hk); (try clear hi)))
  go_ret2
  exact ⟨zr, zb⟩

/-! ### tree_count: function 64 -/
mutual
def tree_count.l0 : Nat → Int → Int → List (S26) → Int → Int → Option (Int × Int)
 | 0, _, _, _, _, _ => none
 | k + 1, x4, x5, x11, x12, x13 => if x13 < x12 then (if 0 ≤ x13 then (if x13 < (x11.length : Int) then ((tree_count.f k ((rd_T26 x11 x13).f0) ((rd_T26 x11 x13).f1.f0) ((rd_T26 x11 x13).f1.f1) ((rd_T26 x11 x13).f2)).bind fun bt238 => (tree_count.l0 k (wrap64 (x4 + bt238.1)) (mx x5 (wrap64 (bt238.2 + 1))) x11 x12 (wrap64 (x13 + 1)))) else (none)) else (none)) else (some (x4, x5))
def tree_count.f : Nat → Int → Int → ByteArray → List (S26) → Option (Int × Int)
 | 0, _, _, _, _ => none
 | k + 1, a0_0, a0_1, a0_2, l0_3 => tree_count.l0 k 1 0 l0_3 (l0_3.length : Int) 0
end
set_option maxHeartbeats 8000000 in
set_option maxRecDepth 100000 in
theorem tree_count.calls (k : Nat) : ∀ (a0_0 : Int) (a0_1 : Int) (a0_2 : ByteArray) (A0_3 : Option Addr) (c0_3 : Nat) (l0_3 : List (S26)) (r1 : Int) (r2 : Int) (w : World) (hr0_3 : Kd.C k26 w A0_3 l0_3.length l0_3) (hc0_3 : l0_3.length ≤ c0_3) (h : tree_count.f k a0_0 a0_1 a0_2 l0_3 = some (r1, r2)),
  Calls Try.prog 64 #[.agg #[.int .i64 a0_0, .int .i64 a0_1, .string a0_2, .slice A0_3 l0_3.length c0_3]] w fun e w' => e = .returned (.tuple #[.int .i64 r1, .int .i64 r2]) ∧ Below w.heap.size w w' := by
 induction k using Nat.strongRecOn with
 | _ k ih =>
 intro a0_0 a0_1 a0_2 A0_3 c0_3 l0_3 r1 r2 w hr0_3 hc0_3 h
 cases k with
 | zero => exact absurd h (by simp [tree_count.f])
 | succ k =>
 simp only [tree_count.f] at h; have hu26 := Try.underlying26; have HR0_3 := Aside0.mk hr0_3; have HC0_3 := Aside0.mk hc0_3; clear hr0_3 hc0_3; have HB := Aside0.mk (Below.refl w.heap.size w); have H : (tree_count.l0 k 1 0 l0_3 (l0_3.length : Int) 0) = some (r1, r2) := h; clear h; have H' := Aside0.mk H; clear H; go_enter Try.func64, Try.ntmps64
 go_wp2_with (first | ((with_reducible refine zD 1 rfl ?_); refine zx 1 #[.int .i64 a0_0, .int .i64 a0_1, .string a0_2, .slice A0_3 l0_3.length c0_3] 26 ?_; intro gb235 hg w2 hbox hb; have BK235 := Aside0.mk (hbox); have GW235 := (zq hg : Aside0 (w.heap.size ≤ gb235)); have GE235 := GW235; replace HB := (zB hb); clear hb hbox hg; obtain ⟨hcz3_0, hcz3_1, hcz3_2, hcz3_3⟩ := zc4 BK235; obtain ⟨hfz3_0, hfz3_1, hfz3_2, hfz3_3⟩ := zz4 BK235))
 go_loopg [4, 5, 13] k (fun kq v4 v5 v13 w' => ∃ (x4_1 : Int) (x5_1 : Int) (x13_1 : Int), v4 = .int .i64 x4_1 ∧ v5 = .int .i64 x5_1 ∧ v13 = .int .i64 x13_1 ∧ Aside0 (tree_count.l0 kq x4_1 x5_1 l0_3 (l0_3.length : Int) x13_1 = some (r1, r2)) ∧ Aside0 (kq ≤ k) ∧ Aside0 (w'.heap[gb235]? = some (.cells #[.int .i64 a0_0, .int .i64 a0_1, .string a0_2, (.slice A0_3 l0_3.length c0_3)] 26 (0, 0))) ∧ Aside0 (Below w.heap.size w w'))
 case atStart => exact ⟨(1), (0), (0), zs, zs, zs, H', ⟨Nat.le_refl _⟩, (zA BK235), ⟨zb⟩⟩
 case round =>
  clear H'; obtain ⟨x4_1, x5_1, x13_1, rfl, rfl, rfl, HA, HK1, BK235, HB⟩ := hrel
  cases gk with
  | zero => exact absurd HA.out (by simp [tree_count.l0])
  | succ k1 =>
   have H := HA.out; clear HA; simp only [tree_count.l0] at H; by_cases c4 : x13_1 < (l0_3.length : Int)
   ·rw [if_pos c4] at H; have c4b0 := decide_eq_true c4; clear c4; replace H := zi1 H; obtain ⟨c5b0, H⟩ := H; replace H := zi1 H; obtain ⟨c6b0, H⟩ := H; replace H := Option.bind_eq_some_iff.mp H; obtain ⟨⟨t238, t239⟩, A70, H⟩ := H; replace H : (tree_count.l0 k1 (wrap64 (x4_1 + t238)) (mx x5_1 (wrap64 (t239 + 1))) l0_3 (l0_3.length : Int) (wrap64 (x13_1 + 1))) = some (r1, r2) := H; have A7 := Aside0.mk A70; clear A70
    obtain ⟨ji8, hji8⟩ : ∃ j_ : Int, (mx x5_1 (wrap64 (t239 + 1))) = j_ := ⟨_, rfl⟩
    replace H : (tree_count.l0 k1 (wrap64 (x4_1 + t238)) ji8 l0_3 (l0_3.length : Int) (wrap64 (x13_1 + 1))) = some (r1, r2) := by first | (rw [hji8] at H; exact H) | (simp only [hji8] at H ⊢; exact H)
    (try rw [hji8] at A7)
    have hji8_ : (if x5_1 < (wrap64 (t239 + 1)) then (wrap64 (t239 + 1)) else x5_1) = ji8 := hji8; have H' := Aside0.mk H; clear H; have p236 : 0 ≤ (x13_1 : Int) := zt; have q236 : x13_1 < (l0_3.length : Int) := zt; obtain ⟨ad236, A236_3, c236_3, e236, hx236_0, hx236_1, hx236_2, hx236_3, hl236_3, hi236_3⟩ := at_T26 HR0_3.out x13_1 p236 q236
    cases e236
    replace hx236_0 := zh HB hx236_0; replace hx236_1 := zh HB hx236_1; replace hx236_2 := zh HB hx236_2; replace hx236_3 := zh HB hx236_3; have HR236_3 := Aside0.mk hi236_3; have HC236_3 := Aside0.mk hl236_3; clear hi236_3 hl236_3; replace p236 := eq_true p236; replace q236 := eq_true q236
    go_wp2_with (first | ((with_reducible refine zD 7 rfl ?_); refine zx 7 #[.int .i64 0, .int .i64 0, .string (⟨#[]⟩ : ByteArray), .slice none 0 0] 26 ?_; intro gb237 hg w9 hbox hb; have BK237 := Aside0.mk (hbox); have GW237 := (zq hg : Aside0 (w.heap.size ≤ gb237)); have GE237 := GW237; replace HB := (zB hb); have NB235_237 := (zl hg BK235 : Aside0 (gb235 ≠ gb237)); have NB237_235 := (zl' hg BK235 : Aside0 (gb237 ≠ gb235)); replace BK235 := (zK BK235 hb); clear hb hbox hg; have hnb10 := NB237_235.out; have hnc10 := NB235_237.out; obtain ⟨hcz11_0, hcz11_1, hcz11_2, hcz11_3⟩ := zc4 BK237; obtain ⟨hfz11_0, hfz11_1, hfz11_2, hfz11_3⟩ := zz4 BK237) | ((with_reducible refine zG 64 rfl ?_); refine zg 19 Try.func64 ((ih k1 (by have := HK1.out; omega) ((rd_T26 l0_3 x13_1).f0) ((rd_T26 l0_3 x13_1).f1.f0) ((rd_T26 l0_3 x13_1).f1.f1) _ _ ((rd_T26 l0_3 x13_1).f2) t238 t239 _ ?side1 ?side2 A7.out).mono ?_); (case side1 => exact Kd.C_below HR236_3.out zb); (case side2 => exact HC236_3.out); rintro e w12 ⟨rfl, hb⟩; refine ⟨_, rfl, ?_⟩; replace BK235 := (zw2 gb235 #[.int .i64 a0_0, .int .i64 a0_1, .string a0_2, .slice (some ad236) l0_3.length c0_3] 26 hb); replace BK237 := (zw2 gb237 #[.int .i64 ((rd_T26 l0_3 x13_1).f0), .int .i64 ((rd_T26 l0_3 x13_1).f1.f0), .string ((rd_T26 l0_3 x13_1).f1.f1), .slice A236_3 ((rd_T26 l0_3 x13_1).f2).length c236_3] 26 hb); replace HB := (zB hb); (try clear hb); (try clear hb2); (try clear hk); (try clear hi)))
    go_roundg k1
    case measure => have := HK1.out; omega
    case rel => exact ⟨(wrap64 (x4_1 + t238)), (ji8), (wrap64 (x13_1 + 1)), zs, (by first | rfl | (simp; done) | (simp only [← hji8] <;> (first | rfl | simp)) | (simp [*]; done)), zs, H', zk, (zA BK235), ⟨zb⟩⟩
   ·rw [if_neg c4] at H; have c4b0 := decide_eq_false c4; clear c4; simp only [Option.some.injEq, Prod.mk.injEq] at H; obtain ⟨rfl, rfl⟩ := H; go_wp2
    go_ret2
    exact ⟨zr, zb⟩

/-! ### tree_Count: function 29 -/
def tree_Count.f (k : Nat) (a0_0 : Int) (a0_1 : Int) (a0_2 : ByteArray) (l0_3 : List (S26)) : Option (Int × Int × Int) := (tree_IsFormed.f k a0_0 a0_1 a0_2 l0_3).bind fun t241 => (if t241 = true then ((tree_count.f k a0_0 a0_1 a0_2 l0_3).bind fun bt242 => (some (bt242.1, bt242.2, 0))) else (some (0, 0, 4)))
set_option maxHeartbeats 8000000 in
set_option maxRecDepth 100000 in
theorem tree_Count.calls (k : Nat) (a0_0 : Int) (a0_1 : Int) (a0_2 : ByteArray) (A0_3 : Option Addr) (c0_3 : Nat) (l0_3 : List (S26)) (r1 : Int) (r2 : Int) (r3 : Int) (w : World) (hr0_3 : Kd.C k26 w A0_3 l0_3.length l0_3) (hc0_3 : l0_3.length ≤ c0_3) (h : tree_Count.f k a0_0 a0_1 a0_2 l0_3 = some (r1, r2, r3)) :
  Calls Try.prog 29 #[.agg #[.int .i64 a0_0, .int .i64 a0_1, .string a0_2, .slice A0_3 l0_3.length c0_3]] w fun e w' => e = .returned (.tuple #[.int .i64 r1, .int .i64 r2, .int .i64 r3]) ∧ Below w.heap.size w w' := by
 have hu26 := Try.underlying26; have HR0_3 := Aside0.mk hr0_3; have HC0_3 := Aside0.mk hc0_3; clear hr0_3 hc0_3; have HB := Aside0.mk (Below.refl w.heap.size w); have H : ((tree_IsFormed.f k a0_0 a0_1 a0_2 l0_3).bind fun t241 => (if t241 = true then ((tree_count.f k a0_0 a0_1 a0_2 l0_3).bind fun bt242 => (some (bt242.1, bt242.2, 0))) else (some (0, 0, 4)))) = some (r1, r2, r3) := h; clear h; replace H := zo H; obtain ⟨t241, A2, H⟩ := H; by_cases c3 : t241 = true
 ·subst c3; rw [if_pos rfl] at H; replace H := Option.bind_eq_some_iff.mp H; obtain ⟨⟨t242, t243⟩, A40, H⟩ := H; replace H : (some (t242, t243, 0)) = some (r1, r2, r3) := H; have A4 := Aside0.mk A40; clear A40; simp only [Option.some.injEq, Prod.mk.injEq] at H; obtain ⟨rfl, rfl, rfl⟩ := H; go_enter Try.func29, Try.ntmps29
  go_wp2_with (first | ((with_reducible refine zD 1 rfl ?_); refine zx 1 #[.int .i64 a0_0, .int .i64 a0_1, .string a0_2, .slice A0_3 l0_3.length c0_3] 26 ?_; intro gb240 hg w5 hbox hb; have BK240 := Aside0.mk (hbox); have GW240 := (zq hg : Aside0 (w.heap.size ≤ gb240)); have GE240 := GW240; replace HB := (zB hb); clear hb hbox hg; obtain ⟨hcz6_0, hcz6_1, hcz6_2, hcz6_3⟩ := zc4 BK240; obtain ⟨hfz6_0, hfz6_1, hfz6_2, hfz6_3⟩ := zz4 BK240) | ((with_reducible refine zG 30 rfl ?_); refine zg 8 Try.func30 ((tree_IsFormed.calls k a0_0 a0_1 a0_2 _ _ l0_3 true _ ?side1 ?side2 A2.out).mono ?_); (case side1 => exact zC HR0_3); (case side2 => exact HC0_3.out); rintro e w7 ⟨rfl, hb⟩; refine ⟨_, rfl, ?_⟩; replace BK240 := (zK BK240 hb); replace HB := (zB hb); (try clear hb); (try clear hb2); (try clear hk); (try clear hi); obtain ⟨hcz8_0, hcz8_1, hcz8_2, hcz8_3⟩ := zc4 BK240; obtain ⟨hfz8_0, hfz8_1, hfz8_2, hfz8_3⟩ := zz4 BK240) | ((with_reducible refine zG 64 rfl ?_); refine zg 12 Try.func64 ((tree_count.calls k a0_0 a0_1 a0_2 _ _ l0_3 t242 t243 _ ?side1 ?side2 A4.out).mono ?_); (case side1 => exact zC HR0_3); (case side2 => exact HC0_3.out); rintro e w9 ⟨rfl, hb⟩; refine ⟨_, rfl, ?_⟩; replace BK240 := (zK BK240 hb); replace HB := (zB hb); (try clear hb); (try clear hb2); (try clear hk); (try clear hi)))
  go_ret3
  exact ⟨zr, zb⟩
 ·replace c3 := Bool.eq_false_iff.mpr c3; subst c3; replace H := zf H; simp only [Option.some.injEq, Prod.mk.injEq] at H; obtain ⟨rfl, rfl, rfl⟩ := H; go_enter Try.func29, Try.ntmps29
  go_wp2_with (first | ((with_reducible refine zD 1 rfl ?_); refine zx 1 #[.int .i64 a0_0, .int .i64 a0_1, .string a0_2, .slice A0_3 l0_3.length c0_3] 26 ?_; intro gb240 hg w10 hbox hb; have BK240 := Aside0.mk (hbox); have GW240 := (zq hg : Aside0 (w.heap.size ≤ gb240)); have GE240 := GW240; replace HB := (zB hb); clear hb hbox hg; obtain ⟨hcz11_0, hcz11_1, hcz11_2, hcz11_3⟩ := zc4 BK240; obtain ⟨hfz11_0, hfz11_1, hfz11_2, hfz11_3⟩ := zz4 BK240) | ((with_reducible refine zG 30 rfl ?_); refine zg 8 Try.func30 ((tree_IsFormed.calls k a0_0 a0_1 a0_2 _ _ l0_3 false _ ?side1 ?side2 A2.out).mono ?_); (case side1 => exact zC HR0_3); (case side2 => exact HC0_3.out); rintro e w12 ⟨rfl, hb⟩; refine ⟨_, rfl, ?_⟩; replace BK240 := (zK BK240 hb); replace HB := (zB hb); (try clear hb); (try clear hb2); (try clear hk); (try clear hi)))
  go_ret3
  exact ⟨zr, zb⟩

/-! ### marginalialaw05_leaf: function 42 -/
def marginalialaw05_leaf.f (k : Nat) (a0 : ByteArray) : Option (Int × Int × ByteArray × (List (S26))) := (marginaliaref03_Next.f k a0 0).bind fun bt245 => (some (1, bt245.1, bt245.2, ([] : List (S26))))
set_option maxHeartbeats 8000000 in
set_option maxRecDepth 100000 in
theorem marginalialaw05_leaf.calls (k : Nat) (a0 : ByteArray) (r1 : Int) (r2 : Int) (r3 : ByteArray) (r4 : List (S26)) (w : World) (h : marginalialaw05_leaf.f k a0 = some (r1, r2, r3, r4)) :
  Calls Try.prog 42 #[.string a0] w fun e w' => ∃ v3_ : Value, e = .returned (.agg #[.int .i64 r1, .int .i64 r2, .string r3, v3_]) ∧ Kd.R k26 26 w' w.heap.size (fun _ => True) v3_ r4 ∧ Below w.heap.size w w' := by
 have hu26 := Try.underlying26; have HB := Aside0.mk (Below.refl w.heap.size w); have H : ((marginaliaref03_Next.f k a0 0).bind fun bt245 => (some (1, bt245.1, bt245.2, ([] : List (S26))))) = some (r1, r2, r3, r4) := h; clear h; replace H := Option.bind_eq_some_iff.mp H; obtain ⟨⟨t245, t246⟩, A20, H⟩ := H; replace H : (some (1, t245, t246, ([] : List (S26)))) = some (r1, r2, r3, r4) := H; have A2 := Aside0.mk A20; clear A20; simp only [Option.some.injEq, Prod.mk.injEq] at H; obtain ⟨rfl, rfl, rfl, rfl⟩ := H; go_enter Try.func42, Try.ntmps42
 go_wp2_with (first | ((with_reducible refine zD 2 rfl ?_); refine zx 2 #[.int .i64 0, .int .i64 0, .string (⟨#[]⟩ : ByteArray), .slice none 0 0] 26 ?_; intro gb244 hg w3 hbox hb; have BK244 := Aside0.mk (hbox); have GW244 := (zq hg : Aside0 (w.heap.size ≤ gb244)); have GE244 := GW244; replace HB := (zB hb); clear hb hbox hg) | ((with_reducible refine zG 75 rfl ?_); refine zg 4 Try.func75 ((marginaliaref03_Next.calls k a0 0 t245 t246 _ A2.out).mono ?_); rintro e w4 ⟨rfl, hb⟩; refine ⟨_, rfl, ?_⟩; replace BK244 := (zK BK244 hb); replace HB := (zB hb); (try clear hb); (try clear hb2); (try clear hk); (try clear hi); obtain ⟨hcz5_0, hcz5_1, hcz5_2, hcz5_3⟩ := zc4 BK244; obtain ⟨hfz5_0, hfz5_1, hfz5_2, hfz5_3⟩ := zz4 BK244))
 refine bodyPost_ret (results_cell_row rfl _ _ gb244 26 #[.int .i64 1, .int .i64 t245, .string t246, .slice none 0 0] (0, 0) _ rfl zw Try.underlying26 rfl (by kernel_rfl)) rfl ?_; exact ⟨_, zr, by first | exact Kd.R_nil _ _ _ _ _ | exact Kd.N_nil _ _ _ _ _ | exact Kd.V_nil _ _ _ _ _ | exact Kd.Q_nil _ _ _ _ _ | exact Kd.S_nil _ _ _ _ _, zb⟩

end Go.Proofs.Ytnafnieocpkkhaa.P

namespace Go.Proofs.Ytnafnieocpkkhaa.P
open Go.RowKit Go.Proofs.YtnafnieocpkkhaaW.PrintWords Go.Proofs.YtnafnieocpkkhaaW.PrintLast Go.Proofs.YtnafnieocpkkhaaW.PrintMore
attribute [local go_sem] max2_int min2_int max_two min_two max_three min_three max_four min_four
set_option linter.unusedVariables false
set_option linter.unusedSimpArgs false

/-- All but the row that is appended to lies as it lay; that row is the old one or a new one. -/
def marginaliaref05_Leaves.Fr (v v' : Value) (W W' : World) : Prop := W.heap.size ≤ W'.heap.size ∧ (∀ k, k < W.heap.size → some k ≠ v.ownBlock → W'.heap[k]? = W.heap[k]?) ∧ (v'.ownBlock = v.ownBlock ∨ ∃ b, v'.ownBlock = some b ∧ W.heap.size ≤ b)
theorem marginaliaref05_Leaves.Fr.refl (v : Value) (W : World) : marginaliaref05_Leaves.Fr v v W W := ⟨Nat.le_refl _, fun _ _ _ => rfl, .inl rfl⟩
theorem marginaliaref05_Leaves.Fr.trans {v v1 v2 : Value} {W W1 W2 : World} (h : marginaliaref05_Leaves.Fr v v1 W W1) (h2 : marginaliaref05_Leaves.Fr v1 v2 W1 W2) : marginaliaref05_Leaves.Fr v v2 W W2 := by
 refine ⟨Nat.le_trans h.1 h2.1, fun k hk hn => ?_, ?_⟩
 ·refine (h2.2.1 k (Nat.lt_of_lt_of_le hk h.1) ?_).trans (h.2.1 k hk hn)
  rcases h.2.2 with e | ⟨b, e, hb⟩
  ·rw [e]; exact hn
  ·rw [e]; intro q; injection q with q; omega
 ·rcases h2.2.2 with e | ⟨b, e, hb⟩
  ·rw [e]; exact h.2.2
  ·exact .inr ⟨b, e, Nat.le_trans h.1 hb⟩
theorem marginaliaref05_Leaves.Fr.alloc {v v' : Value} {W W' : World} (o : Obj) (h : marginaliaref05_Leaves.Fr v v' (W.alloc o) W') : marginaliaref05_Leaves.Fr v v' W W' := by
 have hs : (W.alloc o).heap.size = W.heap.size + 1 := (by simp)
 refine ⟨by have := h.1; omega, fun k hk hn => (h.2.1 k (by omega) hn).trans (Below.heap_alloc W o k hk), ?_⟩
 rcases h.2.2 with e | ⟨b, e, hb⟩
 ·exact .inl e
 ·exact .inr ⟨b, e, by omega⟩
theorem marginaliaref05_Leaves.Fr.grown {v v' : Value} {W W' : World} (hg : W.grownBy W' v.ownBlock) (hat : v'.ownBlock = v.ownBlock ∨ ∃ b, v'.ownBlock = some b ∧ W.heap.size ≤ b) (hs : W.heap.size ≤ W'.heap.size) : marginaliaref05_Leaves.Fr v v' W W' :=
 ⟨hs, fun k hk hn => hg.block k hk hn, hat⟩
theorem marginaliaref05_Leaves.Fr.blk {v v' : Value} {W W' : World} {g : Nat} {o : Obj} (h : marginaliaref05_Leaves.Fr v v' W W') (hb : W.heap[g]? = some o) (hn : some g ≠ v.ownBlock) : W'.heap[g]? = some o := (h.2.1 g (blk_lt hb) hn).trans hb
end Go.Proofs.Ytnafnieocpkkhaa.P

namespace Go.Proofs.Ytnafnieocpkkhaa.P
open Go.RowKit Go.Proofs.YtnafnieocpkkhaaW.PrintWords Go.Proofs.YtnafnieocpkkhaaW.PrintLast Go.Proofs.YtnafnieocpkkhaaW.PrintMore
attribute [local go_sem] max2_int min2_int max_two min_two max_three min_three max_four min_four
set_option linter.unusedVariables false
set_option linter.unusedSimpArgs false

def tree_All.kids (g : S26 → List Int → List (List Int) → Option (List (List Int))) : List (S26) → Nat → List Int → List (List Int) → Option (List (List Int))
 | [], _, _, out => some out
 | x :: r, i, here, out => (g x (here ++ [(i : Int)]) out).bind fun o => tree_All.kids g r (i + 1) here o
def tree_All.go (kind : Int) : Nat → S26 → List Int → List (List Int) → Option (List (List Int))
 | 0, _, _, _ => none
 | m + 1, n, here, out => if here.length < 1000000 then (if out.length < 1000000 then tree_All.kids (tree_All.go kind m) n.f2 0 here (if n.f0 = kind then out ++ [here] else out) else none) else none
def tree_All.f (k : Nat) (a0_0 : Int) (a0_1 : Int) (a0_2 : ByteArray) (l0_3 : List (S26)) (a1 : Int) : Option (List (List Int) × Int) :=
 (tree_IsFormed.f k a0_0 a0_1 a0_2 l0_3).bind fun b => if b = true then (tree_All.go a1 k ⟨a0_0, ⟨a0_1, a0_2⟩, l0_3⟩ [] []).bind fun l => some (l, 0) else some ([], 4)
abbrev tree_All.RI (w : World) (base : Nat) (v : Value) (xs : List Int) : Prop := Kd.R (Kd.int .i64) 3 w base (fun _ => True) v xs
abbrev tree_All.RR (w : World) (base : Nat) (v : Value) (xs : List (List Int)) : Prop := Kd.R (Kd.slice 3 (Kd.int .i64)) 30 w base (fun _ => True) v xs
/-- What may have changed: block g, rows of []int's, and what is new. -/
def tree_All.Fr (g : Nat) (w w' : World) : Prop := w.heap.size ≤ w'.heap.size ∧ ∀ k, k < w.heap.size → k ≠ g → (∀ cs, w.heap[k]? ≠ some (.cells cs 30 (0, 0))) → w'.heap[k]? = w.heap[k]?
theorem tree_All.Fr.refl (g : Nat) (w : World) : tree_All.Fr g w w := ⟨Nat.le_refl _, fun _ _ _ _ => rfl⟩
theorem tree_All.Fr.trans {g : Nat} {w w1 w2 : World} (h : tree_All.Fr g w w1) (h2 : tree_All.Fr g w1 w2) : tree_All.Fr g w w2 :=
 ⟨Nat.le_trans h.1 h2.1, fun k hk hg ht => by
  have e := h.2 k hk hg ht
  exact (h2.2 k (Nat.lt_of_lt_of_le hk h.1) hg (fun cs hc => ht cs (by rw [← e]; exact hc))).trans e⟩
theorem tree_All.Fr.below {g : Nat} {w w1 : World} (h : Below w.heap.size w w1) : tree_All.Fr g w w1 := ⟨h.size, fun k hk _ _ => h.block k hk⟩
theorem tree_All.Fr.blk {g b : Nat} {w w1 : World} {cs : Array Value} {t : Nat} {fz : Nat × Nat} (h : tree_All.Fr g w w1) (hb : w.heap[b]? = some (.cells cs t fz)) (ht : t ≠ 30) (hg : b ≠ g) : w1.heap[b]? = some (.cells cs t fz) :=
 (h.2 b (blk_lt hb) hg (fun cs' hc => by rw [hb] at hc; injection hc with hc; injection hc with _ h2; exact ht h2)).trans hb
theorem tree_All.Fr.grown {g : Nat} {w w1 : World} {base : Nat} {v : Value} {xs : List (List Int)} (hr : tree_All.RR w base v xs) (h : w.grownBy w1 v.ownBlock) : tree_All.Fr g w w1 :=
 ⟨h.size, fun k hk _ ht => h.block k hk (fun e => by
  obtain ⟨inner, ho⟩ := Kd.R_own hr; obtain ⟨cells, hc⟩ := own_typed ho k e.symm
  exact ht cells hc)⟩
theorem tree_All.Fr.set {g : Nat} {w w1 : World} (h : tree_All.Fr g w w1) (j : Nat) (u : Value) : tree_All.Fr g w (w1.setCell ⟨g, j, none⟩ u) :=
 ⟨by simpa [World.setCell] using h.1, fun k hk hg ht => (Below.heap_setCell w1 ⟨g, j, none⟩ u k hg).trans (h.2 k hk hg ht)⟩
/-- A row of ints stays. -/
theorem tree_All.RI.fr {g base : Nat} {w w1 : World} {v : Value} {xs : List Int} {cs : Array Value} (hr : tree_All.RI w base v xs) (h : tree_All.Fr g w w1) (hg : w.heap[g]? = some (.cells cs 35 (0, 0))) : tree_All.RI w1 base v xs :=
 Kd.R_mono (Kd.R_step (Kd.R_bound hr) (fun k hk hlt => by
  obtain ⟨_, _, _, q, hq, cells, hc⟩ := hk; have hq3 : q = 3 := List.mem_singleton.1 hq; subst hq3; refine h.2 k hlt (fun e => ?_) (fun cs' hc' => ?_)
  ·subst e; rw [hc] at hg; injection hg with hg; injection hg with _ h2; exact absurd h2 (by decide)
  ·rw [hc] at hc'; injection hc' with hc'; injection hc' with _ h2; exact absurd h2 (by decide))) (fun _ hk => hk.1)
theorem tree_All.infoInt : (Try.prog.info? 3).map (fun i => (i.zero, i.size, i.bytes)) = some (some (.int .i64 0), 1, 8) := by kernel_rfl
theorem tree_All.infoRow : (Try.prog.info? 30).map (fun i => (i.zero, i.size, i.bytes)) = some (some (.slice none 0 0), 1, 24) := by kernel_rfl
/-- slices.Clone of a row of ints of the call's own. -/
theorem tree_All.clone (w : World) (base : Nat) (v : Value) (xs : List Int) (hl : xs.length ≤ 1000000) (h : tree_All.RI w base v xs) :
  Calls Try.prog 57 #[v] w fun e w' => ∃ v', e = .returned v' ∧ tree_All.RI w' w.heap.size v' xs ∧ Below w.heap.size w w' := by
 obtain ⟨A, c, rfl, hc, hC⟩ := Kd.R_reads h
 cases A with
 | none =>
  have h0 : xs = [] := by
   rcases Nat.eq_zero_or_pos xs.length with h0 | h0
   ·exact List.length_eq_zero_iff.mp h0
   ·obtain ⟨ad, e, _⟩ := Kd.at_int hC 0 (by omega) (by omega)
    cases e
  subst h0; refine (Try.slices_Clone_int_nil _ _ w).mono ?_; rintro e w' ⟨rfl, rfl⟩; exact ⟨_, rfl, Kd.R_nil _ _ _ _ _, Below.refl _ _⟩
 | some ad =>
  by_cases h0 : xs.length = 0
  ·have h1 := List.length_eq_zero_iff.mp h0; subst h1; refine (Try.slices_Clone_int_zero ad c w).mono ?_; rintro e w' ⟨v', rfl, ho, _, hb⟩; exact ⟨_, rfl, Kd.R_of_own (by simpa [encs] using ho) (fun _ _ => trivial), hb⟩
  ·obtain ⟨g, rfl⟩ := Kd.R_head h; refine (Try.slices_Clone_int g 0 xs.length c xs w (Nat.le_refl _) (by omega) (fun j hj => ?_)).mono ?_
   ·obtain ⟨ad', e, hx⟩ := Kd.at_int hC (j : Int) (by omega) (by omega)
    cases e
    rw [Int.toNat_natCast] at hx; rw [show (⟨g, 0, none⟩ : Addr).add j = ⟨g, j, none⟩ by unfold Addr.add; simp; try omega] at hx
    simpa [rd] using hx
   ·rintro e w' ⟨v', rfl, ho, _, hb⟩; rw [List.take_length] at ho; exact ⟨_, rfl, Kd.R_of_own (by simpa [encs] using ho) (fun _ _ => trivial), hb⟩
/-- append to a row of ints that is full. -/
theorem tree_All.grow_step {ops : Array Oper} {o : Oper} {a : Act} {K : Act → World → Prop} {Q : Exit → Act → World → Prop} {E : Prop} {W : World} {base : Nat} (hgd : o.guard = none) (s x : Operand) (hop : o.op = .call { callee := .builtin .append, args := #[s, x], argTypes := #[30, 30] })
  (A : Option Addr) (c : Nat) (xs : List Int) (i : Int) (hR : tree_All.RI W base (.slice A xs.length c) xs) (hs : a.eval s = .slice A xs.length xs.length) (bn : Nat) (hbn : bn = W.heap.size) (hx : a.eval x = .slice (some ⟨bn, 0, none⟩) 1 1) (hl : xs.length ≤ 1000000) (hbase : base ≤ W.heap.size)
  (hK : ∀ v1 w1, tree_All.RI w1 base v1 (xs ++ [i]) → Below W.heap.size W w1 → K (a.put o.dst v1) w1) :
  if Region.wanted o (yielded ops a.tmps) = true then Oper.wp Try.prog o a (W.alloc (.cells #[.int .i64 i] 3)) K Q else E := by
 subst hbn; obtain ⟨i0, hi, hz0, hz1, hz2⟩ := info_parts tree_All.infoInt; obtain ⟨A', c', e, hc, hC⟩ := Kd.R_reads hR; injection e with e1 _ e3; subst e1 e3; have hB := below_alloc (Below.refl W.heap.size W) (.cells #[.int .i64 i] 3); refine step_append_grows (w := W.alloc (.cells #[.int .i64 i] 3)) hgd s x 30 hop 3 i0 (.int .i64 0) 1 8 Try.underlying30 hi hz0 hz1 hz2 rfl (by decide) A xs.length xs.length (xs.map (Value.int .i64)) hs (fun e => ?_) (by simp) (fun b e j u hj => ?_) ⟨W.heap.size, 0, none⟩ 1 1 [.int .i64 i] hx rfl (fun j u hj => ?_) (fun u hu => ?_) (by omega) (by unfold maxLen; omega) (by omega) (fun v1 w1 ho hg => hK v1 w1 ?_ ?_)
 ·subst e
  rcases Nat.eq_zero_or_pos xs.length with h0 | h0
  ·exact ⟨h0, h0⟩
  ·obtain ⟨ad, e, _⟩ := Kd.at_int hC 0 (by omega) (by omega)
   cases e
 ·subst e
  have hj' : j < xs.length := by
   have := (List.getElem?_eq_some_iff.1 hj).1
   simpa using this
  obtain ⟨ad', e, hx2⟩ := Kd.at_int hC (j : Int) (by omega) (by omega)
  cases e
  rw [Int.toNat_natCast] at hx2; rw [List.getElem?_map, List.getElem?_eq_getElem hj'] at hj; simp only [Option.map_some, Option.some.injEq] at hj; subst hj; refine (hB.cell (World.block_lt_of_cell? W _ hx2)).trans (hx2.trans ?_)
  simp [rd, hj']
 ·match j, hj with
  | 0, hj =>
   simp only [List.getElem?_cons_zero, Option.some.injEq] at hj; subst hj; rw [show (⟨W.heap.size, 0, none⟩ : Addr).add 0 = ⟨W.heap.size, 0, none⟩ from rfl, Lib.cell_of_heap (blk_new _ _)]; rfl
 ·rw [List.mem_singleton.1 hu]; rfl
 ·exact Kd.R_of_own (own_weaken (by simpa [encs] using ho) (Nat.le_trans hbase hB.size)) (fun _ _ => trivial)
 ·refine hB.trans ?_; exact ⟨hg.os, hg.tape, hg.output, hg.size, fun k hk => hg.block k (Nat.lt_of_lt_of_le hk hB.size) (by simp)⟩
/-- What the literal in All does at a Node: the rows in block g grow. -/
def tree_All.Holds (w0 : World) (kind : Int) (g b3 b7 m : Nat) : Prop := ∀ (n : S26) (A : Option Addr) (cc : Nat) (here : List Int) (v2 : Value) (out : List (List Int)) (vo : Value) (r : List (List Int)) (w : World), n.f2.length ≤ cc → Kd.C k26 w0 A n.f2.length n.f2 → tree_All.RI w w0.heap.size v2 here →
 w.heap[g]? = some (.cells #[vo] 35 (0, 0)) → tree_All.RR w w0.heap.size vo out → w.heap[b3]? = some (.cells #[.int .i64 kind] 3 (0, 0)) → w.heap[b7]? = some (.cells #[(.func (.func 56) #[] #[.pointer (some ⟨b3, 0, none⟩), .pointer (some ⟨g, 0, none⟩), .pointer (some ⟨b7, 0, none⟩)])] 88 (0, 0)) → w0.heap.size ≤ g → b3 ≠ g → b7 ≠ g → Below w0.heap.size w0 w → tree_All.go kind m n here out = some r →
 Calls Try.prog 56 #[.agg #[.int .i64 n.f0, .int .i64 n.f1.f0, .string n.f1.f1, .slice A n.f2.length cc], v2, .pointer (some ⟨b3, 0, none⟩), .pointer (some ⟨g, 0, none⟩), .pointer (some ⟨b7, 0, none⟩)] w fun e w' => e = .returned (.tuple #[]) ∧ ∃ vo', w'.heap[g]? = some (.cells #[vo'] 35 (0, 0)) ∧ tree_All.RR w' w0.heap.size vo' r ∧ Below w0.heap.size w0 w' ∧ tree_All.Fr g w w'
set_option maxHeartbeats 16000000 in
set_option maxRecDepth 100000 in
theorem tree_All.walk_ok (w0 : World) (kind : Int) (g b3 b7 : Nat) : ∀ m, tree_All.Holds w0 kind g b3 b7 m := by
 have hu := Try.underlying26; intro m
 induction m with
 | zero =>
  intro n A cc here v2 out vo r w _ _ _ _ _ _ _ _ _ _ _ h
  simp [tree_All.go] at h
 | succ m ih =>
  intro n A cc here v2 out vo r w hcc hC hRI hG hRR h3 h7 hg n3 n7 hB h; rw [tree_All.go] at h; obtain ⟨hlh, h⟩ := Ut.ite_some h; obtain ⟨hlo, h⟩ := Ut.ite_some h; obtain ⟨A2, c2, e2, hc2, _⟩ := Kd.R_reads hRI; subst e2; have HC := Aside0.mk hC; have IH := Aside0.mk ih; have hmax : n.f2.length ≤ 9223372036854775807 := hC.2.1; have hgl := blk_lt hG; have HNG := Aside0.mk (And.intro hg (And.intro n3 n7)); have hA := below_alloc (Below.refl w.heap.size w) (.cells #[.int .i64 n.f0, .int .i64 n.f1.f0, .string n.f1.f1, .slice A n.f2.length cc] 26); have HB1 := Aside0.mk (below_alloc hB (.cells #[.int .i64 n.f0, .int .i64 n.f1.f0, .string n.f1.f1, .slice A n.f2.length cc] 26)); have HF1 := Aside0.mk (tree_All.Fr.below (g := g) hA); have HG1 := Aside0.mk (blk_alloc hG (.cells #[.int .i64 n.f0, .int .i64 n.f1.f0, .string n.f1.f1, .slice A n.f2.length cc] 26)); have HR1 := Aside0.mk (Kd.R_alloc hRR (.cells #[.int .i64 n.f0, .int .i64 n.f1.f0, .string n.f1.f1, .slice A n.f2.length cc] 26)); have HI1 := Aside0.mk (Kd.R_alloc hRI (.cells #[.int .i64 n.f0, .int .i64 n.f1.f0, .string n.f1.f1, .slice A n.f2.length cc] 26)); have H31 := Aside0.mk (blk_alloc h3 (.cells #[.int .i64 n.f0, .int .i64 n.f1.f0, .string n.f1.f1, .slice A n.f2.length cc] 26)); have H71 := Aside0.mk (blk_alloc h7 (.cells #[.int .i64 n.f0, .int .i64 n.f1.f0, .string n.f1.f1, .slice A n.f2.length cc] 26)); have HN1 := Aside0.mk (blk_new w (.cells #[.int .i64 n.f0, .int .i64 n.f1.f0, .string n.f1.f1, .slice A n.f2.length cc] 26)); have hsz := hB.size
  have hng : w.heap.size ≠ g := (by omega)
  have H := Aside0.mk h; clear hC ih hRI hG hRR h3 h7 hB hA n3 n7 h; go_enter Try.func56, Try.ntmps56; have e3 : (w.alloc (.cells #[.int .i64 n.f0, .int .i64 n.f1.f0, .string n.f1.f1, .slice A n.f2.length cc] 26)).cell? ⟨b3, 0, none⟩ = some (.int .i64 kind) := Lib.cell_of_heap H31.out 0
  go_upto_if 12 with fail
  go_cut [] (fun wc => ∃ (o : List (List Int)) (vp : Value), Aside0 (tree_All.kids (tree_All.go kind m) n.f2 0 here o = some r) ∧ Aside0 (wc.heap[w.heap.size]? = some (.cells #[.int .i64 n.f0, .int .i64 n.f1.f0, .string n.f1.f1, .slice A n.f2.length cc] 26 (0, 0))) ∧ Aside0 (wc.heap[g]? = some (.cells #[vp] 35 (0, 0))) ∧ Aside0 (tree_All.RR wc w0.heap.size vp o) ∧ Aside0 (tree_All.RI wc w0.heap.size (.slice A2 here.length c2) here) ∧ Aside0 (wc.heap[b3]? = some (.cells #[.int .i64 kind] 3 (0, 0))) ∧ Aside0 (wc.heap[b7]? = some (.cells #[(.func (.func 56) #[] #[.pointer (some ⟨b3, 0, none⟩), .pointer (some ⟨g, 0, none⟩), .pointer (some ⟨b7, 0, none⟩)])] 88 (0, 0))) ∧ Aside0 (Below w0.heap.size w0 wc) ∧ Aside0 (tree_All.Fr g w wc))
  case first =>
   have h := H.out; by_cases c : n.f0 = kind
   ·rw [if_pos c] at h; have HH := Aside0.mk h; have cb : (n.f0 == kind) = true := beq_iff_eq.mpr c; clear c h H; have eg : (w.alloc (.cells #[.int .i64 n.f0, .int .i64 n.f1.f0, .string n.f1.f1, .slice A n.f2.length cc] 26)).cell? ⟨g, 0, none⟩ = some vo := Lib.cell_of_heap HG1.out 0; have CL := Aside0.mk (tree_All.clone (w.alloc (.cells #[.int .i64 n.f0, .int .i64 n.f1.f0, .string n.f1.f1, .slice A n.f2.length cc] 26)).drew w0.heap.size (.slice A2 here.length c2) here (by omega) (Kd.R_drew HI1.out))
    have HO3 : ∀ w3, Below (w.alloc (.cells #[.int .i64 n.f0, .int .i64 n.f1.f0, .string n.f1.f1, .slice A n.f2.length cc] 26)).drew.heap.size (w.alloc (.cells #[.int .i64 n.f0, .int .i64 n.f1.f0, .string n.f1.f1, .slice A n.f2.length cc] 26)).drew w3 → tree_All.RR w3 w0.heap.size vo out := fun w3 hb => Kd.R_below (Kd.R_drew HR1.out) hb
    have HB3 : ∀ w3, Below (w.alloc (.cells #[.int .i64 n.f0, .int .i64 n.f1.f0, .string n.f1.f1, .slice A n.f2.length cc] 26)).drew.heap.size (w.alloc (.cells #[.int .i64 n.f0, .int .i64 n.f1.f0, .string n.f1.f1, .slice A n.f2.length cc] 26)).drew w3 → Below w0.heap.size w0 w3 := fun w3 hb => (below_drew1 HB1.out).trans (hb.mono (by have := HB1.out.size; have : (w.alloc (.cells #[.int .i64 n.f0, .int .i64 n.f1.f0, .string n.f1.f1, .slice A n.f2.length cc] 26)).drew.heap.size = (w.alloc (.cells #[.int .i64 n.f0, .int .i64 n.f1.f0, .string n.f1.f1, .slice A n.f2.length cc] 26)).heap.size := rfl; omega))
    have HG3 : ∀ w3, Below (w.alloc (.cells #[.int .i64 n.f0, .int .i64 n.f1.f0, .string n.f1.f1, .slice A n.f2.length cc] 26)).drew.heap.size (w.alloc (.cells #[.int .i64 n.f0, .int .i64 n.f1.f0, .string n.f1.f1, .slice A n.f2.length cc] 26)).drew w3 → w3.heap[g]? = some (.cells #[vo] 35 (0, 0)) := fun w3 hb => blk_below (blk_drew HG1.out) hb
    have HP3 : ∀ v3 w3, tree_All.RI w3 (w.alloc (.cells #[.int .i64 n.f0, .int .i64 n.f1.f0, .string n.f1.f1, .slice A n.f2.length cc] 26)).drew.heap.size v3 here → Kd.R (Kd.int .i64) 3 w3 w0.heap.size (fun k => some k ≠ vo.ownBlock) v3 here := fun v3 w3 hr => Kd.R_mono (Kd.R_lower (Kd.R_newR hr (Kd.R_drew HR1.out)) (by have := HB1.out.size; have : (w.alloc (.cells #[.int .i64 n.f0, .int .i64 n.f1.f0, .string n.f1.f1, .slice A n.f2.length cc] 26)).drew.heap.size = (w.alloc (.cells #[.int .i64 n.f0, .int .i64 n.f1.f0, .string n.f1.f1, .slice A n.f2.length cc] 26)).heap.size := rfl; omega)) (fun _ hk => hk.2)
    go_wp2_with fail
    go_region_law (first | (go_simp; go_at_call 57; refine CL.out.mono ?_; rintro e w3 ⟨v3, rfl, hr3, hb3⟩; obtain ⟨A3, c3, hv3, _, _⟩ := Kd.R_reads hr3; subst hv3; have hcg : w3.cell? ⟨g, 0, none⟩ = some vo := Lib.cell_of_heap (HG3 w3 hb3) 0; have hcg2 : (w3.alloc (.cells #[.slice A3 here.length c3] 30)).cell? ⟨g, 0, none⟩ = some vo := Lib.cell_of_heap (blk_alloc (HG3 w3 hb3) _) 0) | (refine Kd.R_append_step (Kd.slice 3 (Kd.int .i64)) w0.heap.size (w0 := w0) (by rfl) (.tmp 13) (.tmp 16) 35 30 (.slice none 0 0) 24 rfl Try.underlying35 tree_All.infoRow rfl (by decide) (by omega) vo out here [.slice A3 here.length c3] (fun _ => True) (fun k => some k ≠ vo.ownBlock) rfl rfl ⟨_, rfl, HP3 _ w3 hr3⟩ (fun k hk => ⟨trivial, hk⟩) (fun _ _ => trivial) (HO3 w3 hb3) (HB3 w3 hb3) (HB3 w3 hb3).size (by omega) ?_; intro v4 w4 hr4 hb4 hg4 hat4; obtain ⟨A4, c4, hv4, _, _⟩ := Kd.R_reads hr4; obtain ⟨n4, hn4⟩ : ∃ n, Aside0 (n = (out ++ [here]).length) := ⟨_, ⟨rfl⟩⟩; rw [← hn4.out] at hv4; subst hv4; have hst := blk_grown (HG3 w3 hb3) hg4 (Kd.R_ne (HO3 w3 hb3) (HG3 w3 hb3) (by decide)); have hct : w4.cell? ⟨g, 0, none⟩ = some vo := Lib.cell_of_heap hst 0; have hft := Lib.frozen_of_heap hst 0))
    all_goals
     have HG5 := Aside0.mk (blk_put (cs' := #[.slice A4 n4 c4]) hst 0 (.slice A4 n4 c4) rfl); have HO5 := Aside0.mk (Kd.R_set hr4 hst (by intro q hq e; subst e; revert hq; decide) 0 (.slice A4 n4 c4)); have HB5 := Aside0.mk (hb4.setCell (p := ⟨g, 0, none⟩) HNG.out.1 (.slice A4 n4 c4)); have HF51 := Aside0.mk (tree_All.Fr.set (tree_All.Fr.trans (tree_All.Fr.below (g := g) (show Below (w.alloc (.cells #[.int .i64 n.f0, .int .i64 n.f1.f0, .string n.f1.f1, .slice A n.f2.length cc] 26)).heap.size (w.alloc (.cells #[.int .i64 n.f0, .int .i64 n.f1.f0, .string n.f1.f1, .slice A n.f2.length cc] 26)) w3 from (below_drew1 (Below.refl _ _)).trans hb3)) (tree_All.Fr.grown (HO3 w3 hb3) hg4)) 0 (.slice A4 n4 c4)); have HF5 := Aside0.mk (tree_All.Fr.trans HF1.out HF51.out); have HI5 := Aside0.mk (tree_All.RI.fr HI1.out HF51.out HG1.out); have H35 := Aside0.mk (tree_All.Fr.blk HF51.out H31.out (by decide) HNG.out.2.1); have H75 := Aside0.mk (tree_All.Fr.blk HF51.out H71.out (by decide) HNG.out.2.2); have HN5 := Aside0.mk (tree_All.Fr.blk HF51.out HN1.out (by decide) hng)
     (try go_wp2_with fail)
     go_meet
     case rel => exact ⟨_, _, HH, HN5, HG5, HO5, HI5, H35, H75, HB5, HF5⟩
   ·rw [if_neg c] at h; have HH := Aside0.mk h; have cb : (n.f0 == kind) = false := beq_eq_false_iff_ne.mpr c; clear c h H; go_wp2_with fail
    go_meet
    case rel => exact ⟨_, _, HH, HN1, HG1, HR1, HI1, H31, H71, HB1, HF1⟩
  case rest =>
   clear HB1 HF1 HG1 HR1 HI1 H31 H71 HN1 H e3; obtain ⟨o0, vp0, HH, HN, HG, HR, HI, H3, H7, HB, HF⟩ := hcut; have z5 : wc.cell? ⟨w.heap.size, 3, none⟩ = some (.slice A n.f2.length cc) := Lib.cell_of_heap HN.out 3; go_wp2_with fail
   go_loopg [21] n.f2.length (fun kq v21 w' => ∃ (i : Nat) (o : List (List Int)) (vp : Value), v21 = .int .i64 (i : Int) ∧ Aside0 (i + kq = n.f2.length) ∧ Aside0 (tree_All.kids (tree_All.go kind m) (n.f2.drop i) i here o = some r) ∧ Aside0 (w'.heap[g]? = some (.cells #[vp] 35 (0, 0))) ∧ Aside0 (tree_All.RR w' w0.heap.size vp o) ∧ Aside0 (tree_All.RI w' w0.heap.size (.slice A2 here.length c2) here) ∧ Aside0 (w'.heap[b3]? = some (.cells #[.int .i64 kind] 3 (0, 0))) ∧ Aside0 (w'.heap[b7]? = some (.cells #[(.func (.func 56) #[] #[.pointer (some ⟨b3, 0, none⟩), .pointer (some ⟨g, 0, none⟩), .pointer (some ⟨b7, 0, none⟩)])] 88 (0, 0))) ∧ Aside0 (Below w0.heap.size w0 w') ∧ Aside0 (tree_All.Fr g w w'))
   case atStart => exact ⟨0, _, _, rfl, ⟨by omega⟩, HH, HG, HR, HI, H3, H7, HB, HF⟩
   case round =>
    clear HH HN HG HR HI H3 H7 HB HF z5; obtain ⟨i, o, vp, rfl, HK, HH, HG, HR, HI, H3, H7, HB, HF⟩ := hrel; by_cases hlt : i < n.f2.length
    ·have hd1 : decide ((i : Int) < (n.f2.length : Int)) = true := decide_eq_true (by omega); have H := HH.out; rw [List.drop_eq_getElem_cons hlt] at H; simp only [tree_All.kids] at H; obtain ⟨o', ho', Hn⟩ := Option.bind_eq_some_iff.mp H; clear H HH
     have hrd : rd_T26 n.f2 (i : Int) = n.f2[i] := (by simp [rd_T26, hlt])
     obtain ⟨ad, A3, c3, e, hx0, hx1, hx2, hx3, hl3, hC3⟩ := at_T26 HC.out (i : Int) (by omega) (by omega); rw [hrd] at hx0 hx1 hx2 hx3 hl3 hC3; rw [Int.toNat_natCast] at hx0 hx1 hx2 hx3; subst e; replace hx0 := (HB.out.cell (World.block_lt_of_cell? w0 _ hx0)).trans hx0; replace hx1 := (HB.out.cell (World.block_lt_of_cell? w0 _ hx1)).trans hx1; replace hx2 := (HB.out.cell (World.block_lt_of_cell? w0 _ hx2)).trans hx2; replace hx3 := (HB.out.cell (World.block_lt_of_cell? w0 _ hx3)).trans hx3; clear hrd; generalize n.f2[i] = x at *; have HO' := Aside0.mk ho'; have HH2 := Aside0.mk Hn; have HC3 := Aside0.mk (And.intro hC3 hl3); clear ho' Hn hC3 hl3
     cases gk with
     | zero => exact absurd hlt (by have := HK.out; omega)
     | succ kq' =>
     go_upto_region 6 with fail
     clear hx0 hx1 hx2 hx3 hd1
     have HW2 : Aside0 (Below wr.heap.size wr (wr.alloc (.cells #[.int .i64 x.f0, .int .i64 x.f1.f0, .string x.f1.f1, .slice A3 x.f2.length c3] 26))) := ⟨below_alloc (Below.refl _ _) _⟩
     have HX2 := Aside0.mk (blk_new wr (.cells #[.int .i64 x.f0, .int .i64 x.f1.f0, .string x.f1.f1, .slice A3 x.f2.length c3] 26))
     have HS2 : Aside0 ((wr.alloc (.cells #[.int .i64 x.f0, .int .i64 x.f1.f0, .string x.f1.f1, .slice A3 x.f2.length c3] 26)).heap.size = wr.heap.size + 1) := ⟨by simp⟩
     have HI2 := Aside0.mk (Kd.R_alloc HI.out (.cells #[.int .i64 x.f0, .int .i64 x.f1.f0, .string x.f1.f1, .slice A3 x.f2.length c3] 26)); generalize wr.alloc (.cells #[.int .i64 x.f0, .int .i64 x.f1.f0, .string x.f1.f1, .slice A3 x.f2.length c3] 26) = W2 at *; have f7 : W2.cell? ⟨b7, 0, none⟩ = some (.func (.func 56) #[] #[.pointer (some ⟨b3, 0, none⟩), .pointer (some ⟨g, 0, none⟩), .pointer (some ⟨b7, 0, none⟩)]) := Lib.cell_of_heap (blk_below H7.out HW2.out) 0; have f7a : (W2.alloc (.cells #[.int .i64 (i : Int)] 3)).cell? ⟨b7, 0, none⟩ = some (.func (.func 56) #[] #[.pointer (some ⟨b3, 0, none⟩), .pointer (some ⟨g, 0, none⟩), .pointer (some ⟨b7, 0, none⟩)]) := Lib.cell_of_heap (blk_alloc (blk_below H7.out HW2.out) _) 0; have y0 : W2.cell? ⟨wr.heap.size, 0, none⟩ = some (.int .i64 x.f0) := Lib.cell_of_heap HX2.out 0; have u0 : (W2.alloc (.cells #[.int .i64 (i : Int)] 3)).cell? ⟨wr.heap.size, 0, none⟩ = some (.int .i64 x.f0) := Lib.cell_of_heap (blk_alloc HX2.out _) 0; have y1 : W2.cell? ⟨wr.heap.size, 1, none⟩ = some (.int .i64 x.f1.f0) := Lib.cell_of_heap HX2.out 1; have u1 : (W2.alloc (.cells #[.int .i64 (i : Int)] 3)).cell? ⟨wr.heap.size, 1, none⟩ = some (.int .i64 x.f1.f0) := Lib.cell_of_heap (blk_alloc HX2.out _) 1; have y2 : W2.cell? ⟨wr.heap.size, 2, none⟩ = some (.string x.f1.f1) := Lib.cell_of_heap HX2.out 2; have u2 : (W2.alloc (.cells #[.int .i64 (i : Int)] 3)).cell? ⟨wr.heap.size, 2, none⟩ = some (.string x.f1.f1) := Lib.cell_of_heap (blk_alloc HX2.out _) 2; have y3 : W2.cell? ⟨wr.heap.size, 3, none⟩ = some (.slice A3 x.f2.length c3) := Lib.cell_of_heap HX2.out 3; have u3 : (W2.alloc (.cells #[.int .i64 (i : Int)] 3)).cell? ⟨wr.heap.size, 3, none⟩ = some (.slice A3 x.f2.length c3) := Lib.cell_of_heap (blk_alloc HX2.out _) 3; have KB := Aside0.mk (fun w5 (hb : Below W2.drew.heap.size W2.drew w5) => (show Below wr.heap.size wr w5 from HW2.out.trans ((below_drew1 (Below.refl W2.heap.size W2)).trans hb |>.mono HW2.out.size))); have hbs : w0.heap.size ≤ W2.drew.heap.size := Nat.le_trans HB.out.size HW2.out.size; have HLL := Aside0.mk (show here.length ≤ 1000000 by omega); clear hgl hsz hng hlo hlh hcc
     go_region_law (first | (refine tree_All.grow_step (W := W2.drew) (base := w0.heap.size) rfl (.tmp 33) (.tmp 35) rfl A2 c2 here (i : Int) (Kd.R_drew HI2.out) rfl W2.heap.size rfl rfl HLL.out hbs ?_; intro v5 w5 hr5 hb5; have f75 : w5.cell? ⟨b7, 0, none⟩ = some (.func (.func 56) #[] #[.pointer (some ⟨b3, 0, none⟩), .pointer (some ⟨g, 0, none⟩), .pointer (some ⟨b7, 0, none⟩)]) := Lib.cell_of_heap (blk_below H7.out (KB.out w5 hb5)) 0; have s0 : w5.cell? ⟨wr.heap.size, 0, none⟩ = some (.int .i64 x.f0) := Lib.cell_of_heap (blk_below (blk_drew HX2.out) hb5) 0; have s1 : w5.cell? ⟨wr.heap.size, 1, none⟩ = some (.int .i64 x.f1.f0) := Lib.cell_of_heap (blk_below (blk_drew HX2.out) hb5) 1; have s2 : w5.cell? ⟨wr.heap.size, 2, none⟩ = some (.string x.f1.f1) := Lib.cell_of_heap (blk_below (blk_drew HX2.out) hb5) 2; have s3 : w5.cell? ⟨wr.heap.size, 3, none⟩ = some (.slice A3 x.f2.length c3) := Lib.cell_of_heap (blk_below (blk_drew HX2.out) hb5) 3) | (go_simp; go_at_call 56; refine (IH.out x A3 c3 (here ++ [(i : Int)]) v5 o vp o' w5 HC3.out.2 HC3.out.1 hr5 (blk_below HG.out (KB.out w5 hb5)) (Kd.R_below HR.out (KB.out w5 hb5)) (blk_below H3.out (KB.out w5 hb5)) (blk_below H7.out (KB.out w5 hb5)) HNG.out.1 HNG.out.2.1 HNG.out.2.2 (HB.out.trans ((KB.out w5 hb5).mono HB.out.size)) HO'.out).mono ?_; rintro e w6 ⟨rfl, vo6, hg6, hr6, hb6, hf6⟩))
     all_goals
      have HFx := Aside0.mk (tree_All.Fr.trans (tree_All.Fr.below (g := g) (KB.out w5 hb5)) hf6); have HG6 := Aside0.mk hg6; have HR6 := Aside0.mk hr6; have HB6 := Aside0.mk hb6; clear f75 f7 f7a s0 s1 s2 s3 y0 y1 y2 y3 u0 u1 u2 u3 hr5 hb5 hg6 hr6 hb6 hf6 hbs; go_wp2_with fail
      go_roundg kq'
      case measure => omega
      case rel => exact ⟨i + 1, o', vo6, by go_num, ⟨by have := HK.out; omega⟩, HH2, HG6, HR6, ⟨tree_All.RI.fr HI.out HFx.out HG.out⟩, ⟨tree_All.Fr.blk HFx.out H3.out (by decide) HNG.out.2.1⟩, ⟨tree_All.Fr.blk HFx.out H7.out (by decide) HNG.out.2.2⟩, HB6, ⟨tree_All.Fr.trans HF.out HFx.out⟩⟩
    ·have hd1 : decide ((i : Int) < (n.f2.length : Int)) = false := decide_eq_false (by omega); have H := HH.out; rw [List.drop_of_length_le (by have := HK.out; omega)] at H; simp only [tree_All.kids, Option.some.injEq] at H; subst H; go_wp2_with fail; go_end0; exact ⟨rfl, vp, HG.out, HR.out, HB.out, HF.out⟩
theorem tree_All.run_store_func (P : Program) (w : World) (a : Addr) (f : Fn) (cs lb : Array Value) (m : Mode) : (store a (.func f cs lb) m).run P w = stored P w a (.func f cs lb) m := run_store P w a _ m rfl
attribute [local go_sem] tree_All.run_store_func
theorem tree_All.second (w : World) (o1 : Obj) (o2 : Obj) : Aside0 (((w.alloc o1).alloc o2).heap[w.heap.size + 1]? = some o2) := ⟨by
 have := blk_new (w.alloc o1) o2
 simpa using this⟩
set_option maxHeartbeats 8000000 in
set_option maxRecDepth 100000 in
theorem tree_All.calls (k : Nat) (a0_0 : Int) (a0_1 : Int) (a0_2 : ByteArray) (A0_3 : Option Addr) (c0_3 : Nat) (l0_3 : List (S26)) (a1 : Int) (r1 : List (List Int)) (r2 : Int) (w : World) (hr0_3 : Kd.C k26 w A0_3 l0_3.length l0_3) (hc0_3 : l0_3.length ≤ c0_3) (h : tree_All.f k a0_0 a0_1 a0_2 l0_3 a1 = some (r1, r2)) :
  Calls Try.prog 18 #[.agg #[.int .i64 a0_0, .int .i64 a0_1, .string a0_2, .slice A0_3 l0_3.length c0_3], .int .i64 a1] w fun e w' => ∃ v0_ : Value, e = .returned (.tuple #[v0_, .int .i64 r2]) ∧ Kd.R (Kd.slice 3 (Kd.int .i64)) 30 w' w.heap.size (fun _ => True) v0_ r1 ∧ Below w.heap.size w w' := by
 have hu := Try.underlying26; unfold tree_All.f at h; obtain ⟨b, hb, h⟩ := Option.bind_eq_some_iff.mp h; have HF := Aside0.mk hb; have HR := Aside0.mk hr0_3; have hB1 := below_alloc (below_alloc (Below.refl w.heap.size w) (.cells #[.int .i64 a0_0, .int .i64 a0_1, .string a0_2, .slice A0_3 l0_3.length c0_3] 26)) (.cells #[.int .i64 a1] 3); have HB := Aside0.mk hB1; have HN := Aside0.mk (blk_alloc (blk_new w (.cells #[.int .i64 a0_0, .int .i64 a0_1, .string a0_2, .slice A0_3 l0_3.length c0_3] 26)) (.cells #[.int .i64 a1] 3))
 have H3 : Aside0 (((w.alloc (.cells #[.int .i64 a0_0, .int .i64 a0_1, .string a0_2, .slice A0_3 l0_3.length c0_3] 26)).alloc (.cells #[.int .i64 a1] 3)).heap[w.heap.size + 1]? = some (.cells #[.int .i64 a1] 3 (0, 0))) := ⟨by
  have := blk_new (w.alloc (.cells #[.int .i64 a0_0, .int .i64 a0_1, .string a0_2, .slice A0_3 l0_3.length c0_3] 26)) (.cells #[.int .i64 a1] 3)
  simpa using this⟩
 clear hb hr0_3 hB1
 cases b with
 | false =>
  rw [if_neg (by decide)] at h; simp only [Option.some.injEq, Prod.mk.injEq] at h; obtain ⟨rfl, rfl⟩ := h; go_enter Try.func18, Try.ntmps18
  go_wp2_with (go_at_call 30; refine (tree_IsFormed.calls k _ _ _ _ _ _ _ _ (Kd.C_below HR.out HB.out) hc0_3 HF.out).mono ?_; rintro e w1 ⟨rfl, hb⟩; have HB1 := Aside0.mk (token_good.step HB.out hb); clear hb)
  go_ret2
  exact ⟨_, rfl, Kd.R_nil _ _ _ _ _, HB1.out⟩
 | true =>
  rw [if_pos rfl] at h; obtain ⟨l, hl, h⟩ := Option.bind_eq_some_iff.mp h; simp only [Option.some.injEq, Prod.mk.injEq] at h; obtain ⟨rfl, rfl⟩ := h; have HL := Aside0.mk hl; clear hl; go_enter Try.func18, Try.ntmps18
  go_wp2_with (go_at_call 30; refine (tree_IsFormed.calls k _ _ _ _ _ _ _ _ (Kd.C_below HR.out HB.out) hc0_3 HF.out).mono ?_; rintro e w1 ⟨rfl, hb⟩; have HB1 := Aside0.mk (token_good.step HB.out hb); have HN1 := Aside0.mk (blk_below HN.out hb); have H31 := Aside0.mk (blk_below H3.out hb); have z0 : w1.cell? ⟨w.heap.size, 0, none⟩ = some (.int .i64 a0_0) := Lib.cell_of_heap HN1.out 0; have z1 : w1.cell? ⟨w.heap.size, 1, none⟩ = some (.int .i64 a0_1) := Lib.cell_of_heap HN1.out 1; have z2 : w1.cell? ⟨w.heap.size, 2, none⟩ = some (.string a0_2) := Lib.cell_of_heap HN1.out 2; have z3 : w1.cell? ⟨w.heap.size, 3, none⟩ = some (.slice A0_3 l0_3.length c0_3) := Lib.cell_of_heap HN1.out 3; have HFb : Aside0 (((w1.alloc (.cells #[.slice none 0 0] 35)).alloc (.cells #[.nilFunc] 88)).heap[w1.heap.size + 1]? = some (.cells #[.nilFunc] 88 (0, 0))) := tree_All.second w1 _ _; have cF : ((w1.alloc (.cells #[.slice none 0 0] 35)).alloc (.cells #[.nilFunc] 88)).cell? ⟨w1.heap.size + 1, 0, none⟩ = some .nilFunc := Lib.cell_of_heap HFb.out 0; have fF := Lib.frozen_of_heap HFb.out 0; have hsz : w.heap.size + 2 ≤ w1.heap.size := (by have hq := hb.size; simp at hq; omega); have q0 : ((w1.alloc (.cells #[.slice none 0 0] 35)).alloc (.cells #[(.func (.func 56) #[] #[.pointer (some ⟨w.heap.size + 1, 0, none⟩), .pointer (some ⟨w1.heap.size, 0, none⟩), .pointer (some ⟨w1.heap.size + 1, 0, none⟩)])] 88)).cell? ⟨w.heap.size, 0, none⟩ = some (.int .i64 a0_0) := Lib.cell_of_heap (blk_alloc (blk_alloc HN1.out _) _) 0; have q1 : ((w1.alloc (.cells #[.slice none 0 0] 35)).alloc (.cells #[(.func (.func 56) #[] #[.pointer (some ⟨w.heap.size + 1, 0, none⟩), .pointer (some ⟨w1.heap.size, 0, none⟩), .pointer (some ⟨w1.heap.size + 1, 0, none⟩)])] 88)).cell? ⟨w.heap.size, 1, none⟩ = some (.int .i64 a0_1) := Lib.cell_of_heap (blk_alloc (blk_alloc HN1.out _) _) 1; have q2 : ((w1.alloc (.cells #[.slice none 0 0] 35)).alloc (.cells #[(.func (.func 56) #[] #[.pointer (some ⟨w.heap.size + 1, 0, none⟩), .pointer (some ⟨w1.heap.size, 0, none⟩), .pointer (some ⟨w1.heap.size + 1, 0, none⟩)])] 88)).cell? ⟨w.heap.size, 2, none⟩ = some (.string a0_2) := Lib.cell_of_heap (blk_alloc (blk_alloc HN1.out _) _) 2; have q3 : ((w1.alloc (.cells #[.slice none 0 0] 35)).alloc (.cells #[(.func (.func 56) #[] #[.pointer (some ⟨w.heap.size + 1, 0, none⟩), .pointer (some ⟨w1.heap.size, 0, none⟩), .pointer (some ⟨w1.heap.size + 1, 0, none⟩)])] 88)).cell? ⟨w.heap.size, 3, none⟩ = some (.slice A0_3 l0_3.length c0_3) := Lib.cell_of_heap (blk_alloc (blk_alloc HN1.out _) _) 3; have HCall := Aside0.mk (tree_All.walk_ok w a1 w1.heap.size (w.heap.size + 1) (w1.heap.size + 1) k ⟨a0_0, ⟨a0_1, a0_2⟩, l0_3⟩ A0_3 c0_3 [] (.slice none 0 0) [] (.slice none 0 0) l ((w1.alloc (.cells #[.slice none 0 0] 35)).alloc (.cells #[(.func (.func 56) #[] #[.pointer (some ⟨w.heap.size + 1, 0, none⟩), .pointer (some ⟨w1.heap.size, 0, none⟩), .pointer (some ⟨w1.heap.size + 1, 0, none⟩)])] 88)) hc0_3 HR.out (Kd.R_nil _ _ _ _ _) (blk_alloc (blk_new w1 _) _) (Kd.R_nil _ _ _ _ _) (blk_alloc (blk_alloc H31.out _) _) (tree_All.second w1 _ _).out (by omega) (by omega) (by omega) (below_alloc (below_alloc HB1.out _) _) HL.out); clear hb)
  refine HCall.out.mono ?_; rintro e w9 ⟨rfl, v9, h1, h2, h3, h4⟩; have e9 : w9.cell? ⟨w1.heap.size, 0, none⟩ = some v9 := Lib.cell_of_heap h1 0; have H2 := Aside0.mk h2; have H3 := Aside0.mk h3; clear h1 h2 h3 h4; go_wp2_with fail
  go_ret2
  exact ⟨_, rfl, H2.out, H3.out⟩

end Go.Proofs.Ytnafnieocpkkhaa.P

namespace Go.Proofs.Ytnafnieocpkkhaa.P
open Go.RowKit Go.Proofs.YtnafnieocpkkhaaW.PrintWords Go.Proofs.YtnafnieocpkkhaaW.PrintLast Go.Proofs.YtnafnieocpkkhaaW.PrintMore
attribute [local go_sem] max2_int min2_int max_two min_two max_three min_three max_four min_four
set_option linter.unusedVariables false
set_option linter.unusedSimpArgs false

/-! ### marginaliaref05_Ints: function 23 -/
def marginaliaref05_Ints.l0 : Nat → List Int → List Int → Int → Option (Bool)
 | 0, _, _, _ => none
 | k + 1, x0, x1, x5 => if x5 < (x0.length : Int) then (if 0 ≤ x5 then (if x5 < (x1.length : Int) then (if (rd x0 x5) = (rd x1 x5) then (marginaliaref05_Ints.l0 k x0 x1 (wrap64 (x5 + 1))) else (some false)) else (none)) else (none)) else (some true)
def marginaliaref05_Ints.f (k : Nat) (l0 : List Int) (l1 : List Int) : Option (Bool) := if (l0.length : Int) = (l1.length : Int) then (marginaliaref05_Ints.l0 k l0 l1 0) else (some false)
set_option maxHeartbeats 8000000 in
set_option maxRecDepth 100000 in
theorem marginaliaref05_Ints.calls (k : Nat) (A0 : Option Addr) (c0 : Nat) (l0 : List Int) (A1 : Option Addr) (c1 : Nat) (l1 : List Int) (r : Bool) (w : World) (hr0 : Kd.C (Kd.int .i64) w A0 l0.length l0) (hc0 : l0.length ≤ c0) (hr1 : Kd.C (Kd.int .i64) w A1 l1.length l1) (hc1 : l1.length ≤ c1) (h : marginaliaref05_Ints.f k l0 l1 = some r) :
  Calls Try.prog 23 #[.slice A0 l0.length c0, .slice A1 l1.length c1] w fun e w' => e = .returned (.bool r) ∧ Drawn0 w w' := by
 have HR0 := Aside0.mk hr0; have HC0 := Aside0.mk hc0; clear hr0 hc0; have HR1 := Aside0.mk hr1; have HC1 := Aside0.mk hc1; clear hr1 hc1; have H : (if (l0.length : Int) = (l1.length : Int) then (marginaliaref05_Ints.l0 k l0 l1 0) else (some false)) = some r := h; clear h; by_cases c3 : (l0.length : Int) = (l1.length : Int)
 ·rw [if_pos c3] at H; have c3b0 : ((l0.length : Int) == (l1.length : Int)) = true := beq_iff_eq.mpr c3; have c3b1 : ((l0.length : Int) != (l1.length : Int)) = false := bne_eq_false_iff_eq.mpr c3
  have c3b2 : (l0.length == l1.length) = true := (by first | simpa using c3 | (simp at c3 ⊢; omega))
  clear c3; have H' := Aside0.mk H; clear H; go_enter Try.func23, Try.ntmps23; go_wp2
  repeat (go_quiet (fail); try go_wp2)
  go_loopg [5] k (fun kq v5 w' => ∃ (x5_1 : Int), v5 = .int .i64 x5_1 ∧ Aside0 (marginaliaref05_Ints.l0 kq l0 l1 x5_1 = some r) ∧ Aside0 (kq ≤ k) ∧ Drawn0 w w')
  case atStart => exact ⟨(0), zs, H', ⟨Nat.le_refl _⟩, zX⟩
  case round =>
   clear H'; obtain ⟨x5_1, rfl, HA, HK1, ⟨m1, rfl⟩⟩ := hrel
   cases gk with
   | zero => exact absurd HA.out (by simp [marginaliaref05_Ints.l0])
   | succ k1 =>
    have H := HA.out; clear HA; simp only [marginaliaref05_Ints.l0] at H; by_cases c4 : x5_1 < (l0.length : Int)
    ·rw [if_pos c4] at H; have c4b0 := decide_eq_true c4; clear c4; replace H := zi1 H; obtain ⟨c5b0, H⟩ := H; replace H := zi1 H; obtain ⟨c6b0, H⟩ := H; by_cases c7 : (rd l0 x5_1) = (rd l1 x5_1)
     ·rw [if_pos c7] at H; have c7b0 : ((rd l0 x5_1) == (rd l1 x5_1)) = true := beq_iff_eq.mpr c7; have c7b1 : ((rd l0 x5_1) != (rd l1 x5_1)) = false := bne_eq_false_iff_eq.mpr c7; clear c7; have H' := Aside0.mk H; clear H; have p230 : 0 ≤ (x5_1 : Int) := zt; have q230 : x5_1 < (l0.length : Int) := zt; obtain ⟨ad230, e230, hx230_0⟩ := Kd.at_int HR0.out x5_1 p230 q230
      cases e230
      replace p230 := eq_true p230; replace q230 := eq_true q230; have p231 : 0 ≤ (x5_1 : Int) := zt; have q231 : x5_1 < (l1.length : Int) := zt; obtain ⟨ad231, e231, hx231_0⟩ := Kd.at_int HR1.out x5_1 p231 q231
      cases e231
      replace p231 := eq_true p231; replace q231 := eq_true q231; go_wp2
      repeat (go_quiet (fail); try go_wp2)
      go_roundg k1
      case measure => have := HK1.out; omega
      case rel => exact ⟨(wrap64 (x5_1 + 1)), zs, H', zk, zX⟩
     ·rw [if_neg c7] at H; have c7b0 : ((rd l0 x5_1) == (rd l1 x5_1)) = false := beq_eq_false_iff_ne.mpr c7; have c7b1 : ((rd l0 x5_1) != (rd l1 x5_1)) = true := bne_iff_ne.mpr c7; obtain rfl := Option.some.inj H; have p230 : 0 ≤ (x5_1 : Int) := zt; have q230 : x5_1 < (l0.length : Int) := zt; obtain ⟨ad230, e230, hx230_0⟩ := Kd.at_int HR0.out x5_1 p230 q230
      cases e230
      replace p230 := eq_true p230; replace q230 := eq_true q230; have p231 : 0 ≤ (x5_1 : Int) := zt; have q231 : x5_1 < (l1.length : Int) := zt; obtain ⟨ad231, e231, hx231_0⟩ := Kd.at_int HR1.out x5_1 p231 q231
      cases e231
      replace p231 := eq_true p231; replace q231 := eq_true q231; go_wp2
      repeat (go_quiet (fail); try go_wp2)
      go_ret; exact ⟨zs, zX⟩
    ·rw [if_neg c4] at H; have c4b0 := decide_eq_false c4; clear c4; obtain rfl := Option.some.inj H; go_wp2
     repeat (go_quiet (fail); try go_wp2)
     go_ret; exact ⟨zs, zX⟩
 ·rw [if_neg c3] at H; have c3b0 : ((l0.length : Int) == (l1.length : Int)) = false := beq_eq_false_iff_ne.mpr c3; have c3b1 : ((l0.length : Int) != (l1.length : Int)) = true := bne_iff_ne.mpr c3
  have c3b2 : (l0.length == l1.length) = false := (by first | simpa using c3 | (simp at c3 ⊢; omega))
  obtain rfl := Option.some.inj H; go_enter Try.func23, Try.ntmps23; go_wp2
  repeat (go_quiet (fail); try go_wp2)
  go_ret; exact ⟨zs, zX⟩

end Go.Proofs.Ytnafnieocpkkhaa.P

namespace Go.Proofs.Ytnafnieocpkkhaa.P
open Go.RowKit Go.Proofs.YtnafnieocpkkhaaW.PrintWords Go.Proofs.YtnafnieocpkkhaaW.PrintLast Go.Proofs.YtnafnieocpkkhaaW.PrintMore
attribute [local go_sem] max2_int min2_int max_two min_two max_three min_three max_four min_four
set_option linter.unusedVariables false
set_option linter.unusedSimpArgs false

def marginalialaw05_sample.lf (k : Int) (b : UInt8) : S26 := ⟨1, ⟨k, ⟨#[b]⟩⟩, []⟩
def marginalialaw05_sample.nm (b : UInt8) : S26 := ⟨23, ⟨0, ⟨#[]⟩⟩, [marginalialaw05_sample.lf 3 b]⟩
def marginalialaw05_sample.ar : S26 := ⟨22, ⟨0, ⟨#[]⟩⟩, [marginalialaw05_sample.lf 7 40, marginalialaw05_sample.nm 120, marginalialaw05_sample.lf 1 32, marginalialaw05_sample.lf 7 41]⟩
def marginalialaw05_sample.kids : List (S26) := [marginalialaw05_sample.nm 102, marginalialaw05_sample.ar]
def marginalialaw05_sample.f : Option (Int × Int × ByteArray × List (S26)) := some (21, 0, ⟨#[]⟩, marginalialaw05_sample.kids)
theorem marginalialaw05_sample.l40 : marginalialaw05_leaf.f 60 ⟨#[40]⟩ = some (1, 7, ⟨#[40]⟩, []) := by kernel_rfl
theorem marginalialaw05_sample.l120 : marginalialaw05_leaf.f 60 ⟨#[120]⟩ = some (1, 3, ⟨#[120]⟩, []) := by kernel_rfl
theorem marginalialaw05_sample.l32 : marginalialaw05_leaf.f 60 ⟨#[32]⟩ = some (1, 1, ⟨#[32]⟩, []) := by kernel_rfl
theorem marginalialaw05_sample.l41 : marginalialaw05_leaf.f 60 ⟨#[41]⟩ = some (1, 7, ⟨#[41]⟩, []) := by kernel_rfl
theorem marginalialaw05_sample.l102 : marginalialaw05_leaf.f 60 ⟨#[102]⟩ = some (1, 3, ⟨#[102]⟩, []) := by kernel_rfl
/-- A literal of elements that the call has made. -/
theorem marginalialaw05_sample.lit {α : Type} (d : Kd α) {W : World} {base e : Nat} {xs : List α} {inner : List Value} (hrep : Reps (d.M W base (fun _ => True)) d.sz xs inner) (hbase : base ≤ W.heap.size) (hm : xs.length ≤ 1000) : d.R e (W.alloc (.cells inner.toArray e)) base (fun _ => True) (.slice (some ⟨W.heap.size, 0, none⟩) xs.length xs.length) xs := by
 refine ⟨fun _ _ => trivial, inner, ?_, ?_⟩
 ·have h2 := World.ownsRow_lit (base := base) (e := e) (size := d.sz) W inner.toArray xs.length hbase (by unfold maxLen; omega) (by simpa using hrep.1)
  simpa using h2
 ·refine hrep.imp_ (fun p c hp => d.M_mono (fun k hk => ⟨trivial, fun he => ?_⟩) (Kd.M_below (d.M_bound hp) (below_alloc (Below.refl _ _) _)))
  have h3 : k = W.heap.size := (by simpa [Value.ownBlock] using he)
  have := hk.2.2.1
  omega
/-- A leaf's cells, in a later world. -/
theorem marginalialaw05_sample.leafM {w W : World} {base : Nat} {k : Int} {b : UInt8} {v : Value} (h : Kd.R k26 26 w base (fun _ => True) v []) (hb : Below w.heap.size w W) : (k26).M W base (fun _ => True) (marginalialaw05_sample.lf k b) [.int .i64 1, .int .i64 k, .string ⟨#[b]⟩, v] := k26_mkM W base _ (marginalialaw05_sample.lf k b) (Kd.R_below h hb)
set_option maxHeartbeats 8000000 in
set_option maxRecDepth 100000 in
theorem marginalialaw05_sample.calls (r1 : Int) (r2 : Int) (r3 : ByteArray) (r4 : List (S26)) (w : World) (h : marginalialaw05_sample.f = some (r1, r2, r3, r4)) :
  Calls Try.prog 44 #[] w fun e w' => ∃ v3_ : Value, e = .returned (.agg #[.int .i64 r1, .int .i64 r2, .string r3, v3_]) ∧ Kd.R k26 26 w' w.heap.size (fun _ => True) v3_ r4 ∧ Below w.heap.size w w' := by
 have hu := Try.underlying26; simp only [marginalialaw05_sample.f, Option.some.injEq, Prod.mk.injEq] at h; obtain ⟨rfl, rfl, rfl, rfl⟩ := h; have HB0 := Aside0.mk (Below.refl (w.alloc (.cells #[.int .i64 0, .int .i64 0, .string (⟨#[]⟩ : ByteArray), .slice none 0 0] 26)).heap.size (w.alloc (.cells #[.int .i64 0, .int .i64 0, .string (⟨#[]⟩ : ByteArray), .slice none 0 0] 26))); have HG0 := Aside0.mk (blk_new w (.cells #[.int .i64 0, .int .i64 0, .string (⟨#[]⟩ : ByteArray), .slice none 0 0] 26))
 have HS0 : Aside0 ((w.alloc (.cells #[.int .i64 0, .int .i64 0, .string (⟨#[]⟩ : ByteArray), .slice none 0 0] 26)).heap.size = w.heap.size + 1) := ⟨by simp⟩
 have HWB := Aside0.mk (below_alloc (Below.refl w.heap.size w) (.cells #[.int .i64 0, .int .i64 0, .string (⟨#[]⟩ : ByteArray), .slice none 0 0] 26)); generalize hw0 : w.alloc (.cells #[.int .i64 0, .int .i64 0, .string (⟨#[]⟩ : ByteArray), .slice none 0 0] 26) = w0 at *; have HW0 := Aside0.mk hw0; clear hw0; go_enter Try.func44, Try.ntmps44
 go_upto_region 1 with fail
 rw [HW0.out]; go_wp2_with fail; refine (marginalialaw05_leaf.calls 60 _ _ _ _ _ _ marginalialaw05_sample.l40).mono ?_; rintro e w1 ⟨v, rfl, hR, hb⟩; obtain ⟨A1, c1, hv, _, _⟩ := Kd.R_reads hR; subst hv; have HR1_1 := Aside0.mk (Kd.R_lower hR HB0.out.size); have HB1 := Aside0.mk (token_good.step HB0.out hb); have HG1 := Aside0.mk (blk_below HG0.out hb); clear hR hb HB0 HG0; go_wp2_with fail; refine (marginalialaw05_leaf.calls 60 _ _ _ _ _ _ marginalialaw05_sample.l120).mono ?_; rintro e w2 ⟨v, rfl, hR, hb⟩; obtain ⟨A2, c2, hv, _, _⟩ := Kd.R_reads hR; subst hv; have HR2_2 := Aside0.mk (Kd.R_lower hR HB1.out.size); have HB2 := Aside0.mk (token_good.step HB1.out hb); have HG2 := Aside0.mk (blk_below HG1.out hb); have HR1_2 := Aside0.mk (Kd.R_below HR1_1.out hb); clear hR hb HB1 HG1 HR1_1; have HRx_2 := Aside0.mk (marginalialaw05_sample.lit (e := 26) k26 (W := w2) (base := w0.heap.size) (xs := [marginalialaw05_sample.lf 3 120]) (inner := [.int .i64 1, .int .i64 3, .string ⟨#[120]⟩, .slice A2 0 c2]) (show Reps _ 4 _ _ from by simpa using Reps.snoc (Reps.none _ _) (marginalialaw05_sample.leafM (b := 120) HR2_2.out (Below.refl _ _)) rfl) HB2.out.size (by simp)); go_wp2_with fail; refine (marginalialaw05_leaf.calls 60 _ _ _ _ _ _ marginalialaw05_sample.l32).mono ?_; rintro e w3 ⟨v, rfl, hR, hb⟩; obtain ⟨A3, c3, hv, _, _⟩ := Kd.R_reads hR; subst hv; have HR3_3 := Aside0.mk (Kd.R_lower hR (below_alloc HB2.out (.cells #[.int .i64 1, .int .i64 3, .string ⟨#[120]⟩, .slice A2 0 c2] 26)).size); have HB3 := Aside0.mk (token_good.step (below_alloc HB2.out (.cells #[.int .i64 1, .int .i64 3, .string ⟨#[120]⟩, .slice A2 0 c2] 26)) hb); have HG3 := Aside0.mk (blk_below (blk_alloc HG2.out (.cells #[.int .i64 1, .int .i64 3, .string ⟨#[120]⟩, .slice A2 0 c2] 26)) hb); have HR1_3 := Aside0.mk (Kd.R_below (Kd.R_alloc HR1_2.out (.cells #[.int .i64 1, .int .i64 3, .string ⟨#[120]⟩, .slice A2 0 c2] 26)) hb); have HRx_3 := Aside0.mk (Kd.R_below HRx_2.out hb); clear hR hb HB2 HG2 HR1_2 HRx_2; go_wp2_with fail; refine (marginalialaw05_leaf.calls 60 _ _ _ _ _ _ marginalialaw05_sample.l41).mono ?_; rintro e w4 ⟨v, rfl, hR, hb⟩; obtain ⟨A4, c4, hv, _, _⟩ := Kd.R_reads hR; subst hv; have HR4_4 := Aside0.mk (Kd.R_lower hR HB3.out.size); have HB4 := Aside0.mk (token_good.step HB3.out hb); have HG4 := Aside0.mk (blk_below HG3.out hb); have HR1_4 := Aside0.mk (Kd.R_below HR1_3.out hb); have HRx_4 := Aside0.mk (Kd.R_below HRx_3.out hb); have HR3_4 := Aside0.mk (Kd.R_below HR3_3.out hb); clear hR hb HB3 HG3 HR1_3 HRx_3 HR3_3; have HRy_4 := Aside0.mk (marginalialaw05_sample.lit (e := 26) k26 (W := w4) (base := w0.heap.size) (xs := marginalialaw05_sample.ar.f2) (inner := [.int .i64 1, .int .i64 7, .string ⟨#[40]⟩, .slice A1 0 c1, .int .i64 23, .int .i64 0, .string (⟨#[]⟩ : ByteArray), .slice (some ⟨w2.heap.size, 0, none⟩) 1 1, .int .i64 1, .int .i64 1, .string ⟨#[32]⟩, .slice A3 0 c3, .int .i64 1, .int .i64 7, .string ⟨#[41]⟩, .slice A4 0 c4]) (show Reps _ 4 _ _ from by simpa [marginalialaw05_sample.ar, marginalialaw05_sample.nm] using Reps.snoc (Reps.snoc (Reps.snoc (Reps.snoc (Reps.none _ _) (marginalialaw05_sample.leafM (b := 40) HR1_4.out (Below.refl _ _)) rfl) (k26_mkM w4 w0.heap.size _ (marginalialaw05_sample.nm 120) HRx_4.out) rfl) (marginalialaw05_sample.leafM (b := 32) HR3_4.out (Below.refl _ _)) rfl) (marginalialaw05_sample.leafM (b := 41) HR4_4.out (Below.refl _ _)) rfl) HB4.out.size (by simp [marginalialaw05_sample.ar])); go_wp2_with fail; have HB5 := Aside0.mk (below_alloc (below_alloc HB4.out (.cells #[.int .i64 1, .int .i64 7, .string ⟨#[40]⟩, .slice A1 0 c1, .int .i64 23, .int .i64 0, .string (⟨#[]⟩ : ByteArray), .slice (some ⟨w2.heap.size, 0, none⟩) 1 1, .int .i64 1, .int .i64 1, .string ⟨#[32]⟩, .slice A3 0 c3, .int .i64 1, .int .i64 7, .string ⟨#[41]⟩, .slice A4 0 c4] 26)) (.cells #[.int .i64 22, .int .i64 0, .string (⟨#[]⟩ : ByteArray), .slice (some ⟨w4.heap.size, 0, none⟩) 4 4] 26)); have HG5 := Aside0.mk (blk_alloc (blk_alloc HG4.out (.cells #[.int .i64 1, .int .i64 7, .string ⟨#[40]⟩, .slice A1 0 c1, .int .i64 23, .int .i64 0, .string (⟨#[]⟩ : ByteArray), .slice (some ⟨w2.heap.size, 0, none⟩) 1 1, .int .i64 1, .int .i64 1, .string ⟨#[32]⟩, .slice A3 0 c3, .int .i64 1, .int .i64 7, .string ⟨#[41]⟩, .slice A4 0 c4] 26)) (.cells #[.int .i64 22, .int .i64 0, .string (⟨#[]⟩ : ByteArray), .slice (some ⟨w4.heap.size, 0, none⟩) 4 4] 26))
 have HA5 : Aside0 (((w4.alloc (.cells #[.int .i64 1, .int .i64 7, .string ⟨#[40]⟩, .slice A1 0 c1, .int .i64 23, .int .i64 0, .string (⟨#[]⟩ : ByteArray), .slice (some ⟨w2.heap.size, 0, none⟩) 1 1, .int .i64 1, .int .i64 1, .string ⟨#[32]⟩, .slice A3 0 c3, .int .i64 1, .int .i64 7, .string ⟨#[41]⟩, .slice A4 0 c4] 26)).alloc (.cells #[.int .i64 22, .int .i64 0, .string (⟨#[]⟩ : ByteArray), .slice (some ⟨w4.heap.size, 0, none⟩) 4 4] 26)).heap[w4.heap.size + 1]? = some (.cells #[.int .i64 22, .int .i64 0, .string (⟨#[]⟩ : ByteArray), .slice (some ⟨w4.heap.size, 0, none⟩) 4 4] 26 (0, 0))) := ⟨by
  have := blk_new (w4.alloc (.cells #[.int .i64 1, .int .i64 7, .string ⟨#[40]⟩, .slice A1 0 c1, .int .i64 23, .int .i64 0, .string (⟨#[]⟩ : ByteArray), .slice (some ⟨w2.heap.size, 0, none⟩) 1 1, .int .i64 1, .int .i64 1, .string ⟨#[32]⟩, .slice A3 0 c3, .int .i64 1, .int .i64 7, .string ⟨#[41]⟩, .slice A4 0 c4] 26)) (.cells #[.int .i64 22, .int .i64 0, .string (⟨#[]⟩ : ByteArray), .slice (some ⟨w4.heap.size, 0, none⟩) 4 4] 26)
  simpa using this⟩
 have HR5 := Aside0.mk (Kd.R_alloc HRy_4.out (.cells #[.int .i64 22, .int .i64 0, .string (⟨#[]⟩ : ByteArray), .slice (some ⟨w4.heap.size, 0, none⟩) 4 4] 26)); clear HB4 HG4 HRy_4 HR1_4 HRx_4 HR3_4 HR4_4 HR2_2; generalize ((w4.alloc (.cells #[.int .i64 1, .int .i64 7, .string ⟨#[40]⟩, .slice A1 0 c1, .int .i64 23, .int .i64 0, .string (⟨#[]⟩ : ByteArray), .slice (some ⟨w2.heap.size, 0, none⟩) 1 1, .int .i64 1, .int .i64 1, .string ⟨#[32]⟩, .slice A3 0 c3, .int .i64 1, .int .i64 7, .string ⟨#[41]⟩, .slice A4 0 c4] 26)).alloc (.cells #[.int .i64 22, .int .i64 0, .string (⟨#[]⟩ : ByteArray), .slice (some ⟨w4.heap.size, 0, none⟩) 4 4] 26)) = W5 at *; have q0 : W5.cell? ⟨w4.heap.size + 1, 0, none⟩ = some (.int .i64 22) := Lib.cell_of_heap HA5.out 0; have q1 : W5.cell? ⟨w4.heap.size + 1, 1, none⟩ = some (.int .i64 0) := Lib.cell_of_heap HA5.out 1; have q2 : W5.cell? ⟨w4.heap.size + 1, 2, none⟩ = some (.string (⟨#[]⟩ : ByteArray)) := Lib.cell_of_heap HA5.out 2; have q3 : W5.cell? ⟨w4.heap.size + 1, 3, none⟩ = some (.slice (some ⟨w4.heap.size, 0, none⟩) 4 4) := Lib.cell_of_heap HA5.out 3
 go_region_law (go_simp; go_at_call 42; refine (marginalialaw05_leaf.calls 60 _ _ _ _ _ _ marginalialaw05_sample.l102).mono ?_; rintro e w6 ⟨v6, rfl, hR6, hb6⟩; obtain ⟨A6, c6, hv6, _, _⟩ := Kd.R_reads hR6; subst hv6; have hA6 := blk_below (blk_drew HA5.out) hb6; have hG6 := blk_alloc (blk_alloc (blk_below (blk_drew HG5.out) hb6) (.cells #[.int .i64 1, .int .i64 3, .string ⟨#[102]⟩, .slice A6 0 c6] 26)) (.cells #[.int .i64 23, .int .i64 0, .string (⟨#[]⟩ : ByteArray), .slice (some ⟨w6.heap.size, 0, none⟩) 1 1, .int .i64 22, .int .i64 0, .string (⟨#[]⟩ : ByteArray), .slice (some ⟨w4.heap.size, 0, none⟩) 4 4] 26); have p0 : w6.cell? ⟨w4.heap.size + 1, 0, none⟩ = some (.int .i64 22) := Lib.cell_of_heap hA6 0; have s0 : (w6.alloc (.cells #[.int .i64 1, .int .i64 3, .string ⟨#[102]⟩, .slice A6 0 c6] 26)).cell? ⟨w4.heap.size + 1, 0, none⟩ = some (.int .i64 22) := Lib.cell_of_heap (blk_alloc hA6 _) 0; have d0 : ((w6.alloc (.cells #[.int .i64 1, .int .i64 3, .string ⟨#[102]⟩, .slice A6 0 c6] 26)).alloc (.cells #[.int .i64 23, .int .i64 0, .string (⟨#[]⟩ : ByteArray), .slice (some ⟨w6.heap.size, 0, none⟩) 1 1, .int .i64 22, .int .i64 0, .string (⟨#[]⟩ : ByteArray), .slice (some ⟨w4.heap.size, 0, none⟩) 4 4] 26)).cell? ⟨w.heap.size, 0, none⟩ = some (.int .i64 0) := Lib.cell_of_heap hG6 0; have f0 := Lib.frozen_of_heap hG6 0; have p1 : w6.cell? ⟨w4.heap.size + 1, 1, none⟩ = some (.int .i64 0) := Lib.cell_of_heap hA6 1; have s1 : (w6.alloc (.cells #[.int .i64 1, .int .i64 3, .string ⟨#[102]⟩, .slice A6 0 c6] 26)).cell? ⟨w4.heap.size + 1, 1, none⟩ = some (.int .i64 0) := Lib.cell_of_heap (blk_alloc hA6 _) 1; have d1 : ((w6.alloc (.cells #[.int .i64 1, .int .i64 3, .string ⟨#[102]⟩, .slice A6 0 c6] 26)).alloc (.cells #[.int .i64 23, .int .i64 0, .string (⟨#[]⟩ : ByteArray), .slice (some ⟨w6.heap.size, 0, none⟩) 1 1, .int .i64 22, .int .i64 0, .string (⟨#[]⟩ : ByteArray), .slice (some ⟨w4.heap.size, 0, none⟩) 4 4] 26)).cell? ⟨w.heap.size, 1, none⟩ = some (.int .i64 0) := Lib.cell_of_heap hG6 1; have f1 := Lib.frozen_of_heap hG6 1; have p2 : w6.cell? ⟨w4.heap.size + 1, 2, none⟩ = some (.string (⟨#[]⟩ : ByteArray)) := Lib.cell_of_heap hA6 2; have s2 : (w6.alloc (.cells #[.int .i64 1, .int .i64 3, .string ⟨#[102]⟩, .slice A6 0 c6] 26)).cell? ⟨w4.heap.size + 1, 2, none⟩ = some (.string (⟨#[]⟩ : ByteArray)) := Lib.cell_of_heap (blk_alloc hA6 _) 2; have d2 : ((w6.alloc (.cells #[.int .i64 1, .int .i64 3, .string ⟨#[102]⟩, .slice A6 0 c6] 26)).alloc (.cells #[.int .i64 23, .int .i64 0, .string (⟨#[]⟩ : ByteArray), .slice (some ⟨w6.heap.size, 0, none⟩) 1 1, .int .i64 22, .int .i64 0, .string (⟨#[]⟩ : ByteArray), .slice (some ⟨w4.heap.size, 0, none⟩) 4 4] 26)).cell? ⟨w.heap.size, 2, none⟩ = some (.string (⟨#[]⟩ : ByteArray)) := Lib.cell_of_heap hG6 2; have f2 := Lib.frozen_of_heap hG6 2; have p3 : w6.cell? ⟨w4.heap.size + 1, 3, none⟩ = some (.slice (some ⟨w4.heap.size, 0, none⟩) 4 4) := Lib.cell_of_heap hA6 3; have s3 : (w6.alloc (.cells #[.int .i64 1, .int .i64 3, .string ⟨#[102]⟩, .slice A6 0 c6] 26)).cell? ⟨w4.heap.size + 1, 3, none⟩ = some (.slice (some ⟨w4.heap.size, 0, none⟩) 4 4) := Lib.cell_of_heap (blk_alloc hA6 _) 3; have d3 : ((w6.alloc (.cells #[.int .i64 1, .int .i64 3, .string ⟨#[102]⟩, .slice A6 0 c6] 26)).alloc (.cells #[.int .i64 23, .int .i64 0, .string (⟨#[]⟩ : ByteArray), .slice (some ⟨w6.heap.size, 0, none⟩) 1 1, .int .i64 22, .int .i64 0, .string (⟨#[]⟩ : ByteArray), .slice (some ⟨w4.heap.size, 0, none⟩) 4 4] 26)).cell? ⟨w.heap.size, 3, none⟩ = some (.slice none 0 0) := Lib.cell_of_heap hG6 3; have f3 := Lib.frozen_of_heap hG6 3)
 all_goals
  have HB6 := Aside0.mk (token_good.step (below_drew1 HB5.out) hb6); have HR6 := Aside0.mk (marginalialaw05_sample.lit (e := 26) k26 (W := w6) (base := w0.heap.size) (xs := [marginalialaw05_sample.lf 3 102]) (inner := [.int .i64 1, .int .i64 3, .string ⟨#[102]⟩, .slice A6 0 c6]) (show Reps _ 4 _ _ from by simpa using Reps.snoc (Reps.none _ _) (marginalialaw05_sample.leafM (b := 102) (Kd.R_lower hR6 (below_drew1 HB5.out).size) (Below.refl _ _)) rfl) HB6.out.size (by simp)); have HRy := Aside0.mk (Kd.R_alloc (Kd.R_below (Kd.R_drew HR5.out) hb6) (.cells #[.int .i64 1, .int .i64 3, .string ⟨#[102]⟩, .slice A6 0 c6] 26)); have HB7 := Aside0.mk (below_alloc HB6.out (.cells #[.int .i64 1, .int .i64 3, .string ⟨#[102]⟩, .slice A6 0 c6] 26))
  have HS7 : Aside0 ((w6.alloc (.cells #[.int .i64 1, .int .i64 3, .string ⟨#[102]⟩, .slice A6 0 c6] 26)).heap.size = w6.heap.size + 1) := ⟨by simp⟩
  have HK := Aside0.mk (marginalialaw05_sample.lit (e := 26) k26 (W := w6.alloc (.cells #[.int .i64 1, .int .i64 3, .string ⟨#[102]⟩, .slice A6 0 c6] 26)) (base := w0.heap.size) (xs := marginalialaw05_sample.kids) (inner := [.int .i64 23, .int .i64 0, .string (⟨#[]⟩ : ByteArray), .slice (some ⟨w6.heap.size, 0, none⟩) 1 1, .int .i64 22, .int .i64 0, .string (⟨#[]⟩ : ByteArray), .slice (some ⟨w4.heap.size, 0, none⟩) 4 4]) (show Reps _ 4 _ _ from by simpa [marginalialaw05_sample.kids, marginalialaw05_sample.ar, marginalialaw05_sample.nm] using Reps.snoc (Reps.snoc (Reps.none _ _) (k26_mkM (w6.alloc (.cells #[.int .i64 1, .int .i64 3, .string ⟨#[102]⟩, .slice A6 0 c6] 26)) w0.heap.size _ (marginalialaw05_sample.nm 102) HR6.out) rfl) (k26_mkM (w6.alloc (.cells #[.int .i64 1, .int .i64 3, .string ⟨#[102]⟩, .slice A6 0 c6] 26)) w0.heap.size _ marginalialaw05_sample.ar HRy.out) rfl) HB7.out.size (by simp [marginalialaw05_sample.kids])); have HGz := Aside0.mk hG6; go_wp2_with fail
  have HK2 : Kd.R k26 26 ((w6.alloc (.cells #[.int .i64 1, .int .i64 3, .string ⟨#[102]⟩, .slice A6 0 c6] 26)).alloc (.cells #[.int .i64 23, .int .i64 0, .string (⟨#[]⟩ : ByteArray), .slice (some ⟨w6.heap.size, 0, none⟩) 1 1, .int .i64 22, .int .i64 0, .string (⟨#[]⟩ : ByteArray), .slice (some ⟨w4.heap.size, 0, none⟩) 4 4] 26)) w0.heap.size (fun _ => True) (.slice (some ⟨w6.heap.size + 1, 0, none⟩) 2 2) marginalialaw05_sample.kids := by
   have hk := HK.out; rw [HS7.out] at hk; exact hk
  have hok : ∀ k, w0.heap.size ≤ k → k ≠ w.heap.size := fun k hk => by have := HS0.out; omega
  refine bodyPost_ret (results_cell_row rfl _ _ w.heap.size 26 #[.int .i64 21, .int .i64 0, .string (⟨#[]⟩ : ByteArray), .slice (some ⟨w6.heap.size + 1, 0, none⟩) 2 2] (0, 0) _ rfl (by refine blk_put (cs := #[.int .i64 21, .int .i64 0, .string (⟨#[]⟩ : ByteArray), .slice none 0 0]) ?_ 3 _ rfl; refine blk_put (cs := #[.int .i64 21, .int .i64 0, .string (⟨#[]⟩ : ByteArray), .slice none 0 0]) ?_ 2 _ rfl; refine blk_put (cs := #[.int .i64 21, .int .i64 0, .string (⟨#[]⟩ : ByteArray), .slice none 0 0]) ?_ 1 _ rfl; refine blk_put (cs := #[.int .i64 0, .int .i64 0, .string (⟨#[]⟩ : ByteArray), .slice none 0 0]) ?_ 0 _ rfl; exact HGz.out) Try.underlying26 rfl (by kernel_rfl)) rfl ?_; refine ⟨_, rfl, Kd.R_mono (Kd.R_lower (Kd.R_far (p := ⟨w.heap.size, 3, none⟩) (Kd.R_far (p := ⟨w.heap.size, 2, none⟩) (Kd.R_far (p := ⟨w.heap.size, 1, none⟩) (Kd.R_far (p := ⟨w.heap.size, 0, none⟩) (Kd.R_mono (Kd.R_bound HK2) (fun k hk => hk.2.1)) hok _) hok _) hok _) hok _) HWB.out.size) (fun _ _ => trivial), ?_⟩; exact below_set (below_set (below_set (below_set (HWB.out.trans ((below_alloc HB7.out (.cells #[.int .i64 23, .int .i64 0, .string (⟨#[]⟩ : ByteArray), .slice (some ⟨w6.heap.size, 0, none⟩) 1 1, .int .i64 22, .int .i64 0, .string (⟨#[]⟩ : ByteArray), .slice (some ⟨w4.heap.size, 0, none⟩) 4 4] 26)).mono HWB.out.size)) (Nat.le_refl _)) (Nat.le_refl _)) (Nat.le_refl _)) (Nat.le_refl _)


end Go.Proofs.Ytnafnieocpkkhaa.P

namespace Go.Proofs.Ytnafnieocpkkhaa.P
open Go.RowKit Go.Proofs.YtnafnieocpkkhaaW.PrintWords Go.Proofs.YtnafnieocpkkhaaW.PrintLast Go.Proofs.YtnafnieocpkkhaaW.PrintMore
attribute [local go_sem] max2_int min2_int max_two min_two max_three min_three max_four min_four
set_option linter.unusedVariables false
set_option linter.unusedSimpArgs false

def marginalialaw05_alive.f : Option (Bool) := some true
theorem marginalialaw05_alive.e1 : tree_Text.f 60 21 0 ⟨#[]⟩ marginalialaw05_sample.kids = some (⟨#[102, 40, 120, 32, 41]⟩, 0) := by kernel_rfl
theorem marginalialaw05_alive.e2 : tree_Find.f 60 21 0 ⟨#[]⟩ marginalialaw05_sample.kids 2 = some ([1, 1, 0], 0) := by kernel_rfl
theorem marginalialaw05_alive.e3 : tree_Cover.f 60 21 0 ⟨#[]⟩ marginalialaw05_sample.kids 2 4 = some ([1], 0) := by kernel_rfl
theorem marginalialaw05_alive.e4 : tree_Count.f 60 21 0 ⟨#[]⟩ marginalialaw05_sample.kids = some (9, 3, 0) := by kernel_rfl
theorem marginalialaw05_alive.e5 : tree_All.f 60 21 0 ⟨#[]⟩ marginalialaw05_sample.kids 23 = some ([[0], [1, 1]], 0) := by kernel_rfl
theorem marginalialaw05_alive.e6 : tree_IsFormed.f 60 21 0 ⟨#[]⟩ marginalialaw05_sample.kids = some true := by kernel_rfl
theorem marginalialaw05_alive.e7 : marginaliaref05_Ints.f 60 [1, 1, 0] [1, 1, 0] = some true := by kernel_rfl
theorem marginalialaw05_alive.e8 : marginaliaref05_Ints.f 60 [1] [1] = some true := by kernel_rfl
theorem marginalialaw05_alive.lit (W : World) (g : Nat) (l : List Int) (cs : Array Value) (hcs : cs = (l.map (Value.int .i64)).toArray) (hl : l.length ≤ 1000) (hb : W.heap[g]? = some (.cells cs 3 (0, 0))) : Kd.C (Kd.int .i64) W (some ⟨g, 0, none⟩) l.length l := by
 subst hcs; refine ⟨rfl, by omega, fun _ => ⟨_, rfl, fun j p hj => ⟨[.int .i64 p], rfl, rfl, fun i u hu => ?_⟩⟩⟩
 have hi : i = 0 := by
  rcases i with _ | i
  ·rfl
  ·simp at hu
 subst hi; simp only [List.getElem?_cons_zero, Option.some.injEq] at hu; subst hu; rw [show (⟨g, 0, none⟩ : Addr).add (j * (Kd.int .i64).sz + 0) = ⟨g, j, none⟩ by show (⟨g, 0, none⟩ : Addr).add (j * 1 + 0) = _; unfold Addr.add; simp; try omega, Lib.cell_of_heap hb]
 simp [hj]
set_option maxHeartbeats 8000000 in
set_option maxRecDepth 100000 in
theorem marginalialaw05_alive.calls (r : Bool) (w : World) (h : marginalialaw05_alive.f = some r) :
  Calls Try.prog 20 #[] w fun e w' => e = .returned (.bool r) ∧ Below w.heap.size w w' := by
 have hu := Try.underlying26; simp only [marginalialaw05_alive.f, Option.some.injEq] at h; subst h; have HB0 := Aside0.mk (Below.refl w.heap.size w); go_enter Try.func20, Try.ntmps20; go_wp2_with fail; refine (marginalialaw05_sample.calls _ _ _ _ _ rfl).mono ?_; rintro e w1 ⟨v, rfl, hN, hb⟩; have HB1 := Aside0.mk (token_good.step HB0.out hb); have HN := Aside0.mk hN; obtain ⟨A, c, hv, hc, hC⟩ := Kd.R_reads hN; subst hv; have HC := Aside0.mk hC; clear hb hN hC HB0; go_wp2_with fail; refine (tree_Text.calls 60 _ _ _ _ _ _ _ _ _ HC.out hc marginalialaw05_alive.e1).mono ?_; rintro e w2 ⟨rfl, hb⟩; have HB2 := Aside0.mk (token_good.step HB1.out hb); clear hb HB1 HN HC hc; go_wp2_with fail; refine (marginalialaw05_sample.calls _ _ _ _ _ rfl).mono ?_; rintro e w3 ⟨v, rfl, hN, hb⟩; have HB3 := Aside0.mk (token_good.step HB2.out hb); have HN := Aside0.mk hN; obtain ⟨A, c, hv, hc, hC⟩ := Kd.R_reads hN; subst hv; have HC := Aside0.mk hC; clear hb hN hC HB2; go_wp2_with fail; refine (tree_Find.calls 60 _ _ _ _ _ _ _ _ _ _ HC.out hc marginalialaw05_alive.e2).mono ?_; rintro e w4 ⟨v, rfl, hR, hb⟩; have HB4 := Aside0.mk (token_good.step HB3.out hb); obtain ⟨A3, c3, hv, hc3, hC3⟩ := Kd.R_reads hR; subst hv; have HC3 := Aside0.mk hC3; have T3_4 := Aside0.mk (Below.refl w4.heap.size w4); clear hR hC3 hb HB3 HN HC hc; go_wp2_with fail; refine (marginalialaw05_sample.calls _ _ _ _ _ rfl).mono ?_; rintro e w5 ⟨v, rfl, hN, hb⟩; have HB5 := Aside0.mk (token_good.step HB4.out hb); have T3_5 := Aside0.mk (token_good.step T3_4.out hb); have HN := Aside0.mk hN; obtain ⟨A, c, hv, hc, hC⟩ := Kd.R_reads hN; subst hv; have HC := Aside0.mk hC; clear hb hN hC HB4; go_wp2_with fail; refine (tree_Cover.calls 60 _ _ _ _ _ _ _ _ _ _ _ HC.out hc marginalialaw05_alive.e3).mono ?_; rintro e w6 ⟨v, rfl, hR, hb⟩; have HB6 := Aside0.mk (token_good.step HB5.out hb); have T3_6 := Aside0.mk (token_good.step T3_5.out hb); obtain ⟨A5, c5, hv, hc5, hC5⟩ := Kd.R_reads hR; subst hv; have HC5 := Aside0.mk hC5; have T5_6 := Aside0.mk (Below.refl w6.heap.size w6); clear hR hC5 hb HB5 HN HC hc; go_wp2_with fail; refine (marginalialaw05_sample.calls _ _ _ _ _ rfl).mono ?_; rintro e w7 ⟨v, rfl, hN, hb⟩; have HB7 := Aside0.mk (token_good.step HB6.out hb); have T3_7 := Aside0.mk (token_good.step T3_6.out hb); have T5_7 := Aside0.mk (token_good.step T5_6.out hb); have HN := Aside0.mk hN; obtain ⟨A, c, hv, hc, hC⟩ := Kd.R_reads hN; subst hv; have HC := Aside0.mk hC; clear hb hN hC HB6; go_wp2_with fail; refine (tree_Count.calls 60 _ _ _ _ _ _ _ _ _ _ HC.out hc marginalialaw05_alive.e4).mono ?_; rintro e w8 ⟨rfl, hb⟩; have HB8 := Aside0.mk (token_good.step HB7.out hb); have T3_8 := Aside0.mk (token_good.step T3_7.out hb); have T5_8 := Aside0.mk (token_good.step T5_7.out hb); clear hb HB7 HN HC hc; go_wp2_with fail; refine (marginalialaw05_sample.calls _ _ _ _ _ rfl).mono ?_; rintro e w9 ⟨v, rfl, hN, hb⟩; have HB9 := Aside0.mk (token_good.step HB8.out hb); have T3_9 := Aside0.mk (token_good.step T3_8.out hb); have T5_9 := Aside0.mk (token_good.step T5_8.out hb); have HN := Aside0.mk hN; obtain ⟨A, c, hv, hc, hC⟩ := Kd.R_reads hN; subst hv; have HC := Aside0.mk hC; clear hb hN hC HB8; go_wp2_with fail; refine (tree_All.calls 60 _ _ _ _ _ _ _ _ _ _ HC.out hc marginalialaw05_alive.e5).mono ?_; rintro e w10 ⟨v, rfl, hR, hb⟩; have HB10 := Aside0.mk (token_good.step HB9.out hb); have T3_10 := Aside0.mk (token_good.step T3_9.out hb); have T5_10 := Aside0.mk (token_good.step T5_9.out hb); obtain ⟨A7, c7, hv, _, _⟩ := Kd.R_reads hR; subst hv; clear hR hb HB9 HN HC hc; go_wp2_with fail; refine (marginalialaw05_sample.calls _ _ _ _ _ rfl).mono ?_; rintro e w11 ⟨v, rfl, hN, hb⟩; have HB11 := Aside0.mk (token_good.step HB10.out hb); have T3_11 := Aside0.mk (token_good.step T3_10.out hb); have T5_11 := Aside0.mk (token_good.step T5_10.out hb); have HN := Aside0.mk hN; obtain ⟨A, c, hv, hc, hC⟩ := Kd.R_reads hN; subst hv; have HC := Aside0.mk hC; clear hb hN hC HB10; go_wp2_with fail
 refine (tree_IsFormed.calls 60 _ _ _ _ _ _ _ _ HC.out hc marginalialaw05_alive.e6).mono ?_; rintro e w12 ⟨rfl, hb⟩; have HB12 := Aside0.mk (token_good.step HB11.out hb); have T3_12 := Aside0.mk (token_good.step T3_11.out hb); have T5_12 := Aside0.mk (token_good.step T5_11.out hb); clear hb HB11 HN HC hc; have HD3 := Aside0.mk (Kd.C_below HC3.out T3_12.out); have HD5 := Aside0.mk (Kd.C_below HC5.out T5_12.out); clear HC3 HC5 T3_12 T5_12; have h110 : ([1, 1, 0] : List Int).length = 3 := rfl; go_wp2_with fail; refine (marginaliaref05_Ints.calls 60 A3 c3 [1, 1, 0] (some ⟨w12.heap.size, 0, none⟩) 3 [1, 1, 0] true _ (Kd.C_below HD3.out (below_alloc (Below.refl _ _) _)) hc3 (marginalialaw05_alive.lit _ w12.heap.size [1, 1, 0] _ rfl (by simp) (blk_new _ _)) (Nat.le_refl _) marginalialaw05_alive.e7).mono ?_; rintro e w13 ⟨rfl, hd⟩; have hb := d0below hd; have HB13 := Aside0.mk (token_good.step (below_alloc HB12.out _) hb); have HE5 := Aside0.mk (Kd.C_below HD5.out (token_good.step (below_alloc (Below.refl w12.heap.size w12) _) hb)); clear hd hb HB12 HD3 HD5; go_wp2_with fail; refine (marginaliaref05_Ints.calls 60 A5 c5 [1] (some ⟨w13.heap.size, 0, none⟩) 1 [1] true _ (Kd.C_below HE5.out (below_alloc (Below.refl _ _) _)) hc5 (marginalialaw05_alive.lit _ w13.heap.size [1] _ rfl (by simp) (blk_new _ _)) (Nat.le_refl _) marginalialaw05_alive.e8).mono ?_; rintro e w14 ⟨rfl, hd⟩; have hb := d0below hd; have HB14 := Aside0.mk (token_good.step (below_alloc HB13.out _) hb); clear hd hb HB13 HE5; go_wp2_with fail; go_ret; exact ⟨rfl, HB14.out⟩

end Go.Proofs.Ytnafnieocpkkhaa.P

set_option linter.unusedVariables false
set_option linter.unusedSimpArgs false
namespace Go.Proofs.Ytnafnieocpkkhaa.P
open Go.RowKit Go.Proofs.YtnafnieocpkkhaaW.PrintWords Go.Proofs.YtnafnieocpkkhaaW.PrintLast Go.Proofs.YtnafnieocpkkhaaW.PrintMore
theorem mx_natT (a b : Nat) : mx (a : Int) (b : Int) = ((max a b : Nat) : Int) := by unfold mx; (repeat' split) <;> omega
end Go.Proofs.Ytnafnieocpkkhaa.P

set_option linter.unusedVariables false
set_option linter.unusedSimpArgs false
namespace Go.Proofs.Ytnafnieocpkkhaa.P
open Go Go.RowKit Go.Proofs.Ytnafnieocpkkhaa Go.Proofs.YtnafnieocpkkhaaW.PrintWords Go.Proofs.YtnafnieocpkkhaaW.PrintLast Go.Proofs.YtnafnieocpkkhaaW.PrintMore
open Go.Proofs.Ytnafnieocpkkhaa.Nums (MapOK num lk)
set_option maxHeartbeats 8000000 in
set_option maxRecDepth 100000 in
theorem tree_Shared.lit_ok (k : Nat) (x : S26) (A : Option Addr) (c : Nat) (w : World) (hC : Kd.C k26 w A x.f2.length x.f2) (hc : x.f2.length ≤ c) (b : Bool) (h : tree_IsFormed.f k x.f0 x.f1.f0 x.f1.f1 x.f2 = some b) :
  Calls Try.prog 72 #[.agg #[.int .i64 x.f0, .int .i64 x.f1.f0, .string x.f1.f1, .slice A x.f2.length c]] w fun e w' => e = .returned (.bool (!b)) ∧ Below w.heap.size w w' := by
 have hu := Try.underlying26
 obtain ⟨w1, hw1⟩ : ∃ w1, w1 = w.alloc (.cells #[.int .i64 x.f0, .int .i64 x.f1.f0, .string x.f1.f1, .slice A x.f2.length c] 26) := ⟨_, rfl⟩
 have BK : Aside0 (w1.heap[w.heap.size]? = some (.cells #[.int .i64 x.f0, .int .i64 x.f1.f0, .string x.f1.f1, .slice A x.f2.length c] 26 (0, 0))) := ⟨by rw [hw1]; exact blk_new _ _⟩
 have HB1 : Aside0 (Below w.heap.size w w1) := ⟨by rw [hw1]; exact below_alloc (Below.refl _ _) _⟩
 have HI := Aside0.mk (tree_IsFormed.calls k x.f0 x.f1.f0 x.f1.f1 A c x.f2 b w1 (Kd.C_below hC HB1.out) hc h); have HW1 := Aside0.mk hw1; clear hC h hw1; go_enter Try.func72, Try.ntmps72
 go_upto_region 1 with fail
 rw [← HW1.out]; obtain ⟨p0, p1, p2, p3⟩ := zc4 BK
 go_wp2_with (go_at_call 30; refine HI.out.mono ?_; rintro e w5 ⟨rfl, hb⟩; have HB5 := Aside0.mk (HB1.out.trans (hb.mono HB1.out.size)); clear hb)
 go_ret; exact ⟨rfl, HB5.out⟩
set_option maxHeartbeats 8000000 in
set_option maxRecDepth 100000 in
theorem tree_Shared.index_ok (k : Nat) (l : List (S26)) (A : Option Addr) (c : Nat) (w : World) (hC : Kd.C k26 w A l.length l) (hc : l.length ≤ c) (r : Bool) (h : tree_Shared.bad k l = some r) :
  Calls Try.prog 89 #[.slice A l.length c, .func (.func 72) #[] #[]] w fun e w' => ∃ j : Int, e = .returned (.int .i64 j) ∧ decide (0 ≤ j) = r ∧ Below w.heap.size w w' := by
 have hu := Try.underlying26; have hmax : l.length ≤ 9223372036854775807 := hC.2.1; have HC := Aside0.mk hC; have HH := Aside0.mk h; clear hC h; go_enter Try.func89, Try.ntmps89; go_wp2_with fail
 go_loopg [8] l.length (fun kq v8 w' => ∃ i : Nat, v8 = .int .i64 (i : Int) ∧ Aside0 (i + kq = l.length) ∧ Aside0 (tree_Shared.bad k (l.drop i) = some r) ∧ Aside0 (Below w.heap.size w w'))
 case atStart => exact ⟨0, rfl, ⟨by omega⟩, HH, ⟨Below.refl _ _⟩⟩
 case round =>
  clear HH; obtain ⟨i, rfl, HK, HH, HB⟩ := hrel; by_cases hlt : i < l.length
  ·have hd1 : decide ((i : Int) < (l.length : Int)) = true := decide_eq_true (by omega); have H := HH.out; rw [List.drop_eq_getElem_cons hlt] at H; simp only [tree_Shared.bad] at H; obtain ⟨b, hb, H⟩ := Option.bind_eq_some_iff.mp H; have HH2 := Aside0.mk H
   have hrd : rd_T26 l (i : Int) = l[i] := (by simp [rd_T26, hlt])
   obtain ⟨ad, A3, c3, e, hx0, hx1, hx2, hx3, hl3, hC3⟩ := at_T26 HC.out (i : Int) (by omega) (by omega); rw [hrd] at hx0 hx1 hx2 hx3 hl3 hC3; rw [Int.toNat_natCast] at hx0 hx1 hx2 hx3
   cases e
   replace hx0 := zh HB hx0; replace hx1 := zh HB hx1; replace hx2 := zh HB hx2; replace hx3 := zh HB hx3; clear hrd HH H; generalize l[i] = x at *; have HCall := Aside0.mk (tree_Shared.lit_ok k x A3 c3 wr (Kd.C_below hC3 HB.out) hl3 b hb); clear hl3 hC3 hb
   cases gk with
   | zero => exact absurd hlt (by have := HK.out; omega)
   | succ kq' =>
   cases b with
   | true =>
    go_wp2_with (go_at_call 72; refine HCall.out.mono ?_; rintro e w5 ⟨rfl, h2⟩; have HB2 := Aside0.mk (HB.out.trans (h2.mono HB.out.size)); clear h2)
    have hq : tree_Shared.bad k (l.drop (i + 1)) = some r := (by simpa using HH2.out)
    have HH3 := Aside0.mk hq; clear hq
    go_roundg kq'
    case measure => omega
    case rel => exact ⟨i + 1, by go_num, ⟨by have := HK.out; omega⟩, HH3, HB2⟩
   | false =>
    go_wp2_with (go_at_call 72; refine HCall.out.mono ?_; rintro e w5 ⟨rfl, h2⟩; have HB2 := Aside0.mk (HB.out.trans (h2.mono HB.out.size)); clear h2)
    have hq := HH2.out; rw [if_neg (by decide)] at hq; obtain rfl := Option.some.inj hq; go_ret; exact ⟨_, rfl, decide_eq_true (by omega), HB2.out⟩
  ·have hd1 : decide ((i : Int) < (l.length : Int)) = false := decide_eq_false (by omega); have H := HH.out; rw [List.drop_of_length_le (by have := HK.out; omega)] at H; simp only [tree_Shared.bad] at H; obtain rfl := Option.some.inj H; clear H HH; go_wp2_with fail; go_ret; exact ⟨_, rfl, rfl, HB.out⟩
set_option maxHeartbeats 8000000 in
set_option maxRecDepth 100000 in
theorem tree_Shared.any_ok (k : Nat) (l : List (S26)) (A : Option Addr) (c : Nat) (w : World) (hC : Kd.C k26 w A l.length l) (hc : l.length ≤ c) (r : Bool) (h : tree_Shared.bad k l = some r) :
  Calls Try.prog 71 #[.slice A l.length c, .func (.func 72) #[] #[]] w fun e w' => e = .returned (.bool r) ∧ Below w.heap.size w w' := by
 have HCall := Aside0.mk (tree_Shared.index_ok k l A c w hC hc r h); clear hC h; go_enter Try.func71, Try.ntmps71
 go_wp2_with (go_at_call 89; refine HCall.out.mono ?_; rintro e w5 ⟨j, rfl, hj, h2⟩; have HB2 := Aside0.mk h2; have HJ := Aside0.mk hj; clear h2 hj)
 go_ret; exact ⟨by rw [← HJ.out]; rfl, HB2.out⟩
set_option maxHeartbeats 8000000 in
set_option maxRecDepth 100000 in
theorem tree_Shared.calls (k : Nat) (A0 : Option Addr) (c0 : Nat) (l0 : List (S26)) (r1 : Int) (r2 : Int) (w : World) (hr0 : Kd.C k26 w A0 l0.length l0) (hc0 : l0.length ≤ c0) (h : tree_Shared.f k l0 = some (r1, r2)) :
  Calls Try.prog 40 #[.slice A0 l0.length c0] w fun e w' => e = .returned (.tuple #[.int .i64 r1, .int .i64 r2]) ∧ Below w.heap.size w w' := by
 have hu := Try.underlying26; have hmm := @run_makeMap Try.prog; have hmax : l0.length ≤ 9223372036854775807 := hr0.2.1; unfold tree_Shared.f at h; by_cases h12 : 12 < l0.length
 ·rw [if_pos h12] at h; obtain ⟨rfl, rfl⟩ := Prod.mk.inj (Option.some.inj h); have hd : decide ((l0.length : Int) > 12) = true := decide_eq_true (by omega); clear hr0 h; go_enter Try.func40, Try.ntmps40; go_wp2_with fail
  go_ret2
  exact ⟨rfl, Below.refl _ _⟩
 ·rw [if_neg h12] at h; obtain ⟨b, hb, h⟩ := Option.bind_eq_some_iff.mp h; have hd : decide ((l0.length : Int) > 12) = false := decide_eq_false (by omega); have HCall := Aside0.mk (tree_Shared.any_ok k l0 A0 c0 w hr0 hc0 b hb); have HC := Aside0.mk hr0; have H := Aside0.mk h; clear hr0 hb h; go_enter Try.func40, Try.ntmps40
  cases b with
  | true =>
   have h := H.out; rw [if_pos rfl] at h; obtain ⟨rfl, rfl⟩ := Prod.mk.inj (Option.some.inj h); clear h
   go_wp2_with (go_at_call 71; refine HCall.out.mono ?_; rintro e w5 ⟨rfl, h2⟩; have HB2 := Aside0.mk h2; clear h2)
   go_ret2
   exact ⟨rfl, HB2.out⟩
  | false =>
   have h := H.out; rw [if_neg (by decide)] at h; obtain ⟨ke, hke, h⟩ := Option.bind_eq_some_iff.mp h; obtain ⟨hkl, h⟩ := Ut.ite_some h; obtain ⟨rfl, rfl⟩ := Prod.mk.inj (Option.some.inj h); have HE := Aside0.mk hke; clear hke h
   go_upto_region 5 with (go_at_call 71; refine HCall.out.mono ?_; rintro e w5 ⟨rfl, h2⟩; have HB2 := Aside0.mk h2; clear h2)
   have HOK := Aside0.mk (tree_Shared.of_ok w w5.heap.size k); have HM0 := Aside0.mk (MapOK.made w5); have HB3 := Aside0.mk (below_alloc HB2.out (.map #[] 0)); have hbs : w.heap.size ≤ w5.heap.size := HB2.out.size; go_wp2_with fail; generalize hw6 : w5.alloc (.map #[] 0) = w6 at *; generalize hbm : w5.heap.size = bm at *
   go_loopg [15] l0.length (fun kq v15 w' => ∃ (i : Nat) (ks : List ByteArray), v15 = .int .i64 (i : Int) ∧ Aside0 (i + kq = l0.length) ∧ Aside0 (tree_Shared.all (tree_Shared.go k) (l0.drop i) ks = some ke) ∧ Aside0 (MapOK w' bm ks) ∧ Aside0 (Below w.heap.size w w'))
   case atStart => exact ⟨0, [], rfl, ⟨by omega⟩, HE, HM0, HB3⟩
   case round =>
    clear HE HM0 HB3 HB2 HCall; obtain ⟨i, ks, rfl, HK, HE, HM, HB⟩ := hrel; by_cases hlt : i < l0.length
    ·have hd1 : decide ((i : Int) < (l0.length : Int)) = true := decide_eq_true (by omega); have H := HE.out; rw [List.drop_eq_getElem_cons hlt] at H; simp only [tree_Shared.all] at H; obtain ⟨o, ho, H⟩ := Option.bind_eq_some_iff.mp H; have HH2 := Aside0.mk H; have HO := Aside0.mk ho
     have hrd : rd_T26 l0 (i : Int) = l0[i] := (by simp [rd_T26, hlt])
     obtain ⟨ad, A3, c3, e, hx0, hx1, hx2, hx3, hl3, hC3⟩ := at_T26 HC.out (i : Int) (by omega) (by omega); rw [hrd] at hx0 hx1 hx2 hx3 hl3 hC3; rw [Int.toNat_natCast] at hx0 hx1 hx2 hx3
     cases e
     replace hx0 := zh HB hx0; replace hx1 := zh HB hx1; replace hx2 := zh HB hx2; replace hx3 := zh HB hx3; clear hrd HE H ho; generalize l0[i] = x at *; have HCC := Aside0.mk hC3; have HLL := Aside0.mk hl3; clear hl3 hC3
     cases gk with
     | zero => exact absurd hlt (by have := HK.out; omega)
     | succ kq' =>
     go_upto_region 9 with fail
     have hbx : bm < wr.heap.size := HM.out.lt; have HX := Aside0.mk (blk_new wr (.cells #[.int .i64 x.f0, .int .i64 x.f1.f0, .string x.f1.f1, .slice A3 x.f2.length c3] 26)); have HM2 := Aside0.mk (HM.out.kept (World.grownBy_alloc wr (.cells #[.int .i64 x.f0, .int .i64 x.f1.f0, .string x.f1.f1, .slice A3 x.f2.length c3] 26) none) (by simp)); have HB2 := Aside0.mk (below_alloc HB.out (.cells #[.int .i64 x.f0, .int .i64 x.f1.f0, .string x.f1.f1, .slice A3 x.f2.length c3] 26)); clear hx0 hx1 hx2 hx3; generalize wr.alloc (.cells #[.int .i64 x.f0, .int .i64 x.f1.f0, .string x.f1.f1, .slice A3 x.f2.length c3] 26) = W2 at *; obtain ⟨q0, q1, q2, q3⟩ := zc4 HX; have HC2 := Aside0.mk (HOK.out x A3 c3 ks o W2 HLL.out HCC.out HB2.out HM2.out hbs HO.out)
     go_wp2_with (go_at_call 73; refine HC2.out.mono ?_; rintro e w7 ⟨rfl, hm5, hb5, hg5⟩; have HM7 := Aside0.mk hm5; have HB7 := Aside0.mk hb5; clear hm5 hb5 hg5)
     go_roundg kq'
     case measure => omega
     case rel => exact ⟨i + 1, o.2, by go_num, ⟨by have := HK.out; omega⟩, HH2, HM7, HB7⟩
    ·have hd1 : decide ((i : Int) < (l0.length : Int)) = false := decide_eq_false (by omega); have H := HE.out; rw [List.drop_of_length_le (by have := HK.out; omega)] at H; simp only [tree_Shared.all] at H; obtain rfl := Option.some.inj H; clear H HE
     have hmapT : Try.prog.underlying 102 = some (.map 9 3) := (by kernel_rfl)
     obtain ⟨D, hD1, hD2, hD3, hD4, hD5⟩ := HM.out; have hlen8 := hD1.len hmapT 3; rw [hD3] at hlen8; go_wp2_with fail
     go_ret2
     exact ⟨rfl, HB.out⟩
end Go.Proofs.Ytnafnieocpkkhaa.P

set_option linter.unusedVariables false
set_option linter.unusedSimpArgs false
namespace Go.Proofs.Ytnafnieocpkkhaa.P
open Go Go.RowKit Go.Proofs.Ytnafnieocpkkhaa Go.Proofs.YtnafnieocpkkhaaW.PrintWords Go.Proofs.YtnafnieocpkkhaaW.PrintLast Go.Proofs.YtnafnieocpkkhaaW.PrintMore
/-- A row of Nodes that was laid by hand, all of the same Node. -/
theorem sharing_row {W : World} {base : Nat} {m : S26} {A : Option Addr} {c : Nat} (hR : Kd.R k26 26 W base (fun _ => True) (.slice A m.f2.length c) m.f2) (hb : base ≤ W.heap.size) :
  Kd.C k26 (W.alloc (.cells #[.int .i64 m.f0, .int .i64 m.f1.f0, .string m.f1.f1, .slice A m.f2.length c] 26)) (some ⟨W.heap.size, 0, none⟩) 1 [m] :=
 (Kd.R_reads' (marginalialaw05_sample.lit (e := 26) k26 (W := W) (base := base) (xs := [m]) (inner := [.int .i64 m.f0, .int .i64 m.f1.f0, .string m.f1.f1, .slice A m.f2.length c]) (show Reps _ 4 _ _ from by simpa using Reps.snoc (Reps.none _ _) (k26_mkM W base _ m hR) rfl) hb (by simp))).2.2
theorem sharing_row2 {W : World} {base : Nat} {m : S26} {A : Option Addr} {c : Nat} (hR : Kd.R k26 26 W base (fun _ => True) (.slice A m.f2.length c) m.f2) (hb : base ≤ W.heap.size) :
  Kd.C k26 (W.alloc (.cells #[.int .i64 m.f0, .int .i64 m.f1.f0, .string m.f1.f1, .slice A m.f2.length c, .int .i64 m.f0, .int .i64 m.f1.f0, .string m.f1.f1, .slice A m.f2.length c] 26)) (some ⟨W.heap.size, 0, none⟩) 2 [m, m] :=
 (Kd.R_reads' (marginalialaw05_sample.lit (e := 26) k26 (W := W) (base := base) (xs := [m, m]) (inner := [.int .i64 m.f0, .int .i64 m.f1.f0, .string m.f1.f1, .slice A m.f2.length c, .int .i64 m.f0, .int .i64 m.f1.f0, .string m.f1.f1, .slice A m.f2.length c]) (show Reps _ 4 _ _ from by simpa using Reps.snoc (Reps.snoc (Reps.none _ _) (k26_mkM W base _ m hR) rfl) (k26_mkM W base _ m hR) rfl) hb (by simp))).2.2
set_option maxHeartbeats 8000000 in
set_option maxRecDepth 100000 in
theorem sharing_walk (k : Nat) (W : World) (x : S26) (A0 : Option Addr) (c0 : Nat) (hr0 : Kd.C k26 W A0 x.f2.length x.f2) (hc0 : x.f2.length ≤ c0) (m : S26) (a b c d e f g : Int)
  (hm : marginaliaref05_Cut.f k x.f0 x.f1.f0 x.f1.f1 x.f2 120 = some (m.f0, m.f1.f0, m.f1.f1, m.f2)) (h1 : tree_Shared.f k [m] = some (a, e)) (h2 : tree_Shared.f k [m, m] = some (b, f)) (h3 : tree_Count.f k m.f0 m.f1.f0 m.f1.f1 m.f2 = some (c, d, g))
  (hok : (e = 4 ∧ f = 4 ∧ g = 4) ∨ (e = 0 ∧ f = 0 ∧ g = 0 ∧ a = b ∧ a ≤ c ∧ d + 1 ≤ a ∧ 0 ≤ d ∧ d ≤ 1000000)) :
  Calls Try.prog 7 #[.agg #[.int .i64 x.f0, .int .i64 x.f1.f0, .string x.f1.f1, .slice A0 x.f2.length c0]] W fun e w' => e = .returned (.bool true) ∧ Below W.heap.size W w' := by
 have hu := Try.underlying26
 obtain ⟨w1, hw1⟩ : ∃ w1, w1 = W.alloc (.cells #[.int .i64 x.f0, .int .i64 x.f1.f0, .string x.f1.f1, .slice A0 x.f2.length c0] 26) := ⟨_, rfl⟩
 have BK : Aside0 (w1.heap[W.heap.size]? = some (.cells #[.int .i64 x.f0, .int .i64 x.f1.f0, .string x.f1.f1, .slice A0 x.f2.length c0] 26 (0, 0))) := ⟨by rw [hw1]; exact blk_new _ _⟩
 have HB1 : Aside0 (Below W.heap.size W w1) := ⟨by rw [hw1]; exact below_alloc (Below.refl _ _) _⟩
 have HI := Aside0.mk (marginaliaref05_Cut.calls k x.f0 x.f1.f0 x.f1.f1 A0 c0 x.f2 120 _ _ _ _ w1 (Kd.C_below hr0 HB1.out) hc0 hm); have HW1 := Aside0.mk hw1; have HS1 := Aside0.mk h1; have HS2 := Aside0.mk h2; have HS3 := Aside0.mk h3; have HOK := Aside0.mk hok; clear hr0 hm h1 h2 h3 hok hw1; go_enter Try.func7, Try.ntmps7
 go_upto_region 1 with fail
 rw [← HW1.out]; obtain ⟨p0, p1, p2, p3⟩ := zc4 BK
 go_upto_region 2 with (go_at_call 39; refine HI.out.mono ?_; rintro e w2 ⟨v2, rfl, hr2, hb2⟩; obtain ⟨A2, c2, e2, hc2, _⟩ := Kd.R_reads hr2; subst e2; have HR2 := Aside0.mk (Kd.R_lower hr2 HB1.out.size); have HB2 := Aside0.mk (HB1.out.trans (hb2.mono HB1.out.size)); clear hr2 hb2)
 clear p0 p1 p2 p3; have BK3 := Aside0.mk (blk_new w2 (.cells #[.int .i64 m.f0, .int .i64 m.f1.f0, .string m.f1.f1, .slice A2 m.f2.length c2] 26)); have HR3 := Aside0.mk (Kd.R_alloc HR2.out (.cells #[.int .i64 m.f0, .int .i64 m.f1.f0, .string m.f1.f1, .slice A2 m.f2.length c2] 26)); have HB3 := Aside0.mk (below_alloc HB2.out (.cells #[.int .i64 m.f0, .int .i64 m.f1.f0, .string m.f1.f1, .slice A2 m.f2.length c2] 26)); generalize w2.alloc (.cells #[.int .i64 m.f0, .int .i64 m.f1.f0, .string m.f1.f1, .slice A2 m.f2.length c2] 26) = W3 at *; generalize w2.heap.size = g3 at *; obtain ⟨p0, p1, p2, p3⟩ := zc4 BK3; have HC3 := Aside0.mk (tree_Shared.calls k (some ⟨W3.heap.size, 0, none⟩) 1 [m] a e _ (sharing_row HR3.out HB3.out.size) (Nat.le_refl _) HS1.out)
 go_upto_region 3 with (go_at_call 40; refine HC3.out.mono ?_; rintro e w4 ⟨rfl, hb4⟩; have HX4 := Aside0.mk ((below_alloc (Below.refl W3.heap.size W3) _).trans (hb4.mono (by simp))); clear hb4)
 have BK4 := Aside0.mk (blk_below BK3.out HX4.out); have HR4 := Aside0.mk (Kd.R_below HR3.out HX4.out); have HB4 := Aside0.mk (HB3.out.trans (HX4.out.mono HB3.out.size)); clear p0 p1 p2 p3; obtain ⟨p0, p1, p2, p3⟩ := zc4 BK4; have HC4 := Aside0.mk (tree_Shared.calls k (some ⟨w4.heap.size, 0, none⟩) 2 [m, m] b f _ (sharing_row2 HR4.out HB4.out.size) (Nat.le_refl _) HS2.out)
 go_upto_region 4 with (go_at_call 40; refine HC4.out.mono ?_; rintro e w5 ⟨rfl, hb5⟩; have HX5 := Aside0.mk ((below_alloc (Below.refl w4.heap.size w4) _).trans (hb5.mono (by simp))); clear hb5)
 have BK5 := Aside0.mk (blk_below BK4.out HX5.out); have HR5 := Aside0.mk (Kd.R_below HR4.out HX5.out); have HB5 := Aside0.mk (HB4.out.trans (HX5.out.mono HB4.out.size)); clear p0 p1 p2 p3; obtain ⟨p0, p1, p2, p3⟩ := zc4 BK5; have HC5 := Aside0.mk (tree_Count.calls k m.f0 m.f1.f0 m.f1.f1 A2 c2 m.f2 c d g w5 (Kd.R_reads' HR5.out).2.2 hc2 HS3.out)
 go_upto_region 5 with (go_at_call 29; refine HC5.out.mono ?_; rintro e w6 ⟨rfl, hb6⟩; have HB6 := Aside0.mk (HB5.out.trans (hb6.mono HB5.out.size)); clear hb6)
 clear p0 p1 p2 p3; have HAL := Aside0.mk (marginalialaw05_alive.calls true w6 rfl)
 rcases HOK.out with ⟨rfl, rfl, rfl⟩ | ⟨rfl, rfl, rfl, rfl, q1, q2, q3, q4⟩
 ·go_wp2_with (go_at_call 20; refine HAL.out.mono ?_; rintro e w7 ⟨rfl, hb7⟩; have HB7 := Aside0.mk (HB6.out.trans (hb7.mono HB6.out.size)); clear hb7)
  go_ret; exact ⟨rfl, HB7.out⟩
 ·have d1 : decide (a ≤ c) = true := decide_eq_true q1
  have d2 : wrap64 (d + 1) = d + 1 := (by unfold wrap64; omega)
  have d3 : decide (a ≥ d + 1) = true := decide_eq_true q2
  go_wp2_with (go_at_call 20; refine HAL.out.mono ?_; rintro e w7 ⟨rfl, hb7⟩; have HB7 := Aside0.mk (HB6.out.trans (hb7.mono HB6.out.size)); clear hb7)
  go_ret; exact ⟨rfl, HB7.out⟩
end Go.Proofs.Ytnafnieocpkkhaa.P

set_option linter.unusedVariables false
set_option linter.unusedSimpArgs false
namespace Go.Proofs.Ytnafnieocpkkhaa.P
open Go Go.RowKit Go.Proofs.Ytnafnieocpkkhaa Go.Proofs.YtnafnieocpkkhaaW.PrintWords Go.Proofs.YtnafnieocpkkhaaW.PrintLast Go.Proofs.YtnafnieocpkkhaaW.PrintMore
/-- A tree that was cut for the law. -/
def small (x : Nd) : Prop := nd x ≤ 120 ∧ wd x ≤ 2400120
theorem small.sm {x : Nd} (h : small x) : sm x := ⟨by have := h.2; omega, by have := h.1; omega⟩
theorem rcut_ev (n : Nd) : ∃ m : Nd, Ev (fun k => marginaliaref05_Cut.f k n.f0 n.f1.f0 n.f1.f1 n.f2 120) (m.f0, m.f1.f0, m.f1.f1, m.f2) ∧ small m := by
 obtain ⟨m, h1, h2, h3⟩ := cut_ev n 120 0 (by omega) (by omega) (by omega); refine ⟨m, ?_, h2, by omega⟩; unfold marginaliaref05_Cut.f; exact Ev.bind h1 (Ev.now _)
def dps (l : List Nd) : Nat := (l.map fun x => dp x + 1).foldr max 0
theorem dps_cons (x : Nd) (l : List Nd) : dps (x :: l) = max (dp x + 1) (dps l) := rfl
theorem dp_nd : ∀ n, dp n ≤ nd n := by
 refine Nd.ind ?_; intro n ih; rw [dp_eq, nd_eq]; refine dps_le _ (fun x hx => ?_); have h1 := ih x hx; have h2 := sum_mem (f := nd) hx
 omega
theorem cntd_loop (n : Nd) (hl : n.f2.length < 1000000) : ∀ (r : List Nd) (i acc deep : Nat), n.f2.drop i = r → acc + (r.map nd).sum ≤ 1000000 → 1 ≤ acc → (∀ x ∈ r, Ev (fun k => tree_count.f k x.f0 x.f1.f0 x.f1.f1 x.f2) ((nd x : Int), (dp x : Int))) →
  Ev (fun k => tree_count.l0 k (acc : Int) (deep : Int) n.f2 (n.f2.length : Int) (i : Int)) (((acc + (r.map nd).sum : Nat) : Int), ((max deep (dps r) : Nat) : Int)) := by
 intro r
 induction r with
 | nil =>
  intro i acc deep h ha hd hx; have := le_of_nil h; simp only [List.map_nil, List.sum_nil, Nat.add_zero] at ha ⊢; rw [show max deep (dps []) = deep from Nat.max_eq_left (Nat.zero_le _)]; refine Ev.shift ?_; simp only [tree_count.l0]; exact Ev.neg (by omega) (Ev.now _)
 | cons e r ih =>
  intro i acc deep h ha hd hx; have hlt := lt_of_drop h; have hE1 := hx e List.mem_cons_self; have hdn := dp_nd e; simp only [List.map_cons, List.sum_cons] at ha ⊢; have hp := nd_pos e; have hI := ih (i + 1) (acc + nd e) (max deep (dp e + 1)) (drop_next h) (by omega) (by omega) (fun x hx' => hx x (List.mem_cons_of_mem _ hx')); rw [Nat.add_assoc, Nat.max_assoc, ← dps_cons] at hI; refine Ev.shift ?_; simp only [tree_count.l0]; rw [rd_nd h]; refine Ev.pos (by omega) (Ev.pos (by omega) (Ev.pos (by omega) (Ev.bind hE1 ?_))); rw [w64 (n := (acc : Int) + (nd e : Int)) (by omega) (by omega), w64 (n := (i : Int) + 1) (by omega) (by omega), w64 (n := (dp e : Int) + 1) (by omega) (by omega), show (dp e : Int) + 1 = ((dp e + 1 : Nat) : Int) from rfl, mx_natT]; exact hI
theorem cntd_ev : ∀ n : Nd, sm n → Ev (fun k => tree_count.f k n.f0 n.f1.f0 n.f1.f1 n.f2) ((nd n : Int), (dp n : Int)) := by
 refine Nd.ind ?_; intro n ih hs; have hn := nd_eq n; have h2 := hs.2; have hI := cntd_loop n hs.len n.f2 0 1 0 rfl (by omega) (by omega) (fun x hx => ih x hx (hs.kid hx)); rw [← hn, show max 0 (dps n.f2) = dp n by rw [dp_eq, Nat.zero_max]; rfl] at hI; refine Ev.shift ?_; simp only [tree_count.f]; exact hI
theorem Countd_ev (n : Nd) (hs : sm n) : Ev (fun k => tree_Count.f k n.f0 n.f1.f0 n.f1.f1 n.f2) (if fmd n = true then ((nd n : Int), (dp n : Int), 0) else (0, 0, 4)) := by
 have hI := cntd_ev n hs; unfold tree_Count.f; refine Ev.bind (IsFormed_ev n hs) ?_; by_cases h : fmd n = true
 ·rw [if_pos h]; exact Ev.pos h (Ev.bind hI (Ev.now _))
 ·rw [if_neg h]; exact Ev.neg h (Ev.now _)
theorem sharing_ev (n : Nd) (hf : fmd n = true) (hs : small n) : ∃ u : Nat, Ev (fun k => tree_Shared.f k [n]) ((u : Int), 0) ∧ Ev (fun k => tree_Shared.f k [n, n]) ((u : Int), 0) ∧ u ≤ nd n ∧ dp n + 1 ≤ u := by
 have hsm := hs.sm; have hn := hs.1; have hJ := jn_of hf hsm; obtain ⟨t, ks, hI, ht, hx, _, _, hE⟩ := hJ [] [] Inv.nil (by simp; omega); rw [List.nil_append] at hI hx hE; obtain ⟨t2, ks2, hI2, ht2, hx2, h0, _, hE2⟩ := hJ t ks hI (by omega); obtain rfl := h0 hx; rw [List.append_nil] at hI2 hE2; have hk1 := hI.len; have hk2 := hI2.len; have hb1 := bad_ev [n] (by simpa using hsm); have hb2 := bad_ev [n, n] (by simpa using hsm); rw [show [n].all fmd = true by simp [hf]] at hb1; rw [show [n, n].all fmd = true by simp [hf]] at hb2; refine ⟨t.length, ?_, ?_, ht, ?_⟩
 ·unfold tree_Shared.f; rw [← hk1]; refine Ev.neg (by simp) (Ev.bind hb1 (Ev.neg (by decide) (Ev.bind (a := ks) ?_ (Ev.pos (by omega) (Ev.now _))))); simp only [tree_Shared.all]; exact Ev.bind hE (Ev.now _)
 ·unfold tree_Shared.f; rw [← hk2]; refine Ev.neg (by simp) (Ev.bind hb2 (Ev.neg (by decide) (Ev.bind (a := ks2) ?_ (Ev.pos (by omega) (Ev.now _))))); simp only [tree_Shared.all]; exact Ev.bind hE (Ev.bind hE2 (Ev.now _))
 ·obtain ⟨j, hj, e⟩ := List.getElem_of_mem hx; have := hI.dep j n (by rw [List.getElem?_eq_getElem hj, e])
  omega
end Go.Proofs.Ytnafnieocpkkhaa.P
namespace Go.Proofs.Ytnafnieocpkkhaa.Pure
open Go Go.RowKit Go.Proofs.Ytnafnieocpkkhaa Go.Proofs.Ytnafnieocpkkhaa.P Go.Proofs.YtnafnieocpkkhaaW.PrintWords Go.Proofs.YtnafnieocpkkhaaW.PrintLast Go.Proofs.YtnafnieocpkkhaaW.PrintMore
theorem TreeSharing (W : World) (a0 : Nd) (A0 : Option Addr) (c0 : Nat) (hr0 : Kd.C k26 W A0 a0.f2.length a0.f2) (hc0 : a0.f2.length ≤ c0) :
  Calls Try.prog 7 #[.agg #[.int .i64 a0.f0, .int .i64 a0.f1.f0, .string a0.f1.f1, .slice A0 a0.f2.length c0]] W fun e w' => e = .returned (.bool true) ∧ Below W.heap.size W w' := by
 obtain ⟨m, ⟨K1, hm⟩, hs⟩ := rcut_ev a0; obtain ⟨K4, hc⟩ := Countd_ev m hs.sm; have hdn := dp_nd m; have hnd := hs.1; by_cases hf : fmd m = true
 ·rw [if_pos hf] at hc; obtain ⟨u, ⟨K2, h1⟩, ⟨K3, h2⟩, hu1, hu2⟩ := sharing_ev m hf hs; exact sharing_walk (K1 + K2 + K3 + K4) W a0 A0 c0 hr0 hc0 m u u (nd m) (dp m) 0 0 0 (hm _ (by omega)) (h1 _ (by omega)) (h2 _ (by omega)) (hc _ (by omega)) (.inr ⟨rfl, rfl, rfl, rfl, by omega, by omega, by omega, by omega⟩)
 ·rw [if_neg hf] at hc
  have hall : ∀ l : List Nd, (∀ x ∈ l, x = m) → l ≠ [] → l.all fmd = false := by
   intro l hl hne
   cases l with
   | nil => exact absurd rfl hne
   | cons x r => rw [List.all_cons, hl x List.mem_cons_self, Bool.eq_false_iff.mpr hf, Bool.false_and]
  obtain ⟨K2, h1⟩ := Shared_bad [m] (by simp) (by simpa using hs.sm) (hall _ (by simp) (by simp)); obtain ⟨K3, h2⟩ := Shared_bad [m, m] (by simp) (by simpa using hs.sm) (hall _ (by simp) (by simp)); exact sharing_walk (K1 + K2 + K3 + K4) W a0 A0 c0 hr0 hc0 m 0 0 0 0 4 4 4 (hm _ (by omega)) (h1 _ (by omega)) (h2 _ (by omega)) (hc _ (by omega)) (.inl ⟨rfl, rfl, rfl⟩)
end Go.Proofs.Ytnafnieocpkkhaa.Pure

