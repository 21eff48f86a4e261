/- What the claim's row needs of the seat's texts, part 3: put together by a program of this session (declarations that no text of the claim names are left out). -/
import Derived.IntWalk
import Derived.Lib.FrozenHead2
import Derived.Lib.BufferMore
import Derived.Deep.LoopGhost
import Derived.OwnWalk
import Derived.Outline
import Derived.Deep.RegionLawGrows
import Derived.Deep.RegionHeld3
import Derived.Test.YtahcpappailjgaaK2
namespace Go.Proofs.Ytahcpappailjgaa.P
open Go.RowKit Go.Proofs.YtahcpappailjgaaW.PrintWords Go.Proofs.YtahcpappailjgaaW.PrintLast Go.Proofs.YtahcpappailjgaaW.PrintMore
attribute [local go_sem] max2_int min2_int max_two min_two max_three min_three max_four min_four
set_option linter.unusedVariables false
set_option linter.unusedSimpArgs false

/-! ### marginalialaw04_alive: function 14 -/
def marginalialaw04_alive.f (k : Nat)  : Option (Bool) := (marginalialaw04_sample.f k).bind fun t309 => ((relex_Relex.f k t309 (([(⟨2, 3, (⟨#[120, 32, 121]⟩ : ByteArray)⟩ : S39)] : List (S39)))).bind fun bt315 => ((marginalialaw04_sample.f k).bind fun t321 => ((marginaliaref03_Lex.f k (⟨#[97, 32, 100, 32, 99]⟩ : ByteArray)).bind fun t324 => ((relex_Common.f k t321 t324).bind fun bt327 => ((marginalialaw04_sample.f k).bind fun t330 => ((relex_Line.f k t330 (([(⟨2, 3, (⟨#[120, 10, 121]⟩ : ByteArray)⟩ : S39)] : List (S39)))).bind fun bt336 => (if bt315.2.2.2 = 0 then ((marginaliaref03_Lex.f k (⟨#[97, 32, 120, 32, 121, 32, 99]⟩ : ByteArray)).bind fun t338 => ((marginaliaref03_Same.f k bt315.1 t338).bind fun t341 => (if t341 = true then (if bt315.2.1 ≤ 2 then (if bt315.2.2.1 ≤ 2 then (if bt327.2.2 = 0 then (if bt327.1 = 2 then (if bt327.2.1 = 2 then (if bt336.2 = 0 then (some (bt336.1 == 7)) else (some false)) else (some false)) else (some false)) else (some false)) else (some false)) else (some false)) else (some false)))) else (some false))))))))
theorem marginalialaw04_alive.mono : ∀ k, LeO (marginalialaw04_alive.f k ) (marginalialaw04_alive.f (k + 1) ) := by
 intro  k; unfold marginalialaw04_alive.f
 repeat' first
   | (with_reducible exact marginalialaw04_sample.mono _)
   | (with_reducible exact marginaliaref03_Lex.mono _ _)
   | (with_reducible exact marginaliaref03_Same.mono _ _ _)
   | (with_reducible exact relex_Common.mono _ _ _)
   | (with_reducible exact relex_Line.mono _ _ _)
   | (with_reducible exact relex_Relex.mono _ _ _)
   | (with_reducible exact LeO.refl _)
   | (with_reducible exact LeO.none _)
   | (with_reducible refine LeO.ite ?_ ?_)
   | (with_reducible refine LeO.bind ?_ (fun _ => ?_))
   | exact marginalialaw04_sample.mono _
   | exact marginaliaref03_Lex.mono _ _
   | exact marginaliaref03_Same.mono _ _ _
   | exact relex_Common.mono _ _ _
   | exact relex_Line.mono _ _ _
   | exact relex_Relex.mono _ _ _
   | exact LeO.none _
   | refine LeO.ite ?_ ?_
   | refine LeO.bind ?_ (fun _ => ?_)
set_option maxHeartbeats 8000000 in
set_option maxRecDepth 100000 in
theorem marginalialaw04_alive.calls (k : Nat)  (r : Bool) (w : World) (h : marginalialaw04_alive.f k  = some r) :
  Calls Try.prog 14 #[] w fun e w' => e = .returned (.bool r) ∧ Below w.heap.size w w' := by
 have hu39 := Try.underlying39; have HB := Aside0.mk (Below.refl w.heap.size w); have H : ((marginalialaw04_sample.f k).bind fun t309 => ((relex_Relex.f k t309 (([(⟨2, 3, (⟨#[120, 32, 121]⟩ : ByteArray)⟩ : S39)] : List (S39)))).bind fun bt315 => ((marginalialaw04_sample.f k).bind fun t321 => ((marginaliaref03_Lex.f k (⟨#[97, 32, 100, 32, 99]⟩ : ByteArray)).bind fun t324 => ((relex_Common.f k t321 t324).bind fun bt327 => ((marginalialaw04_sample.f k).bind fun t330 => ((relex_Line.f k t330 (([(⟨2, 3, (⟨#[120, 10, 121]⟩ : ByteArray)⟩ : S39)] : List (S39)))).bind fun bt336 => (if bt315.2.2.2 = 0 then ((marginaliaref03_Lex.f k (⟨#[97, 32, 120, 32, 121, 32, 99]⟩ : ByteArray)).bind fun t338 => ((marginaliaref03_Same.f k bt315.1 t338).bind fun t341 => (if t341 = true then (if bt315.2.1 ≤ 2 then (if bt315.2.2.1 ≤ 2 then (if bt327.2.2 = 0 then (if bt327.1 = 2 then (if bt327.2.1 = 2 then (if bt336.2 = 0 then (some (bt336.1 == 7)) else (some false)) else (some false)) else (some false)) else (some false)) else (some false)) else (some false)) else (some false)))) else (some false))))))))) = some r := h; clear h; replace H := zo H; obtain ⟨t309, A1, H⟩ := H
 obtain ⟨y312, hy312⟩ : ∃ y_ : List (S39), y_ = (([(⟨2, 3, (⟨#[120, 32, 121]⟩ : ByteArray)⟩ : S39)] : List (S39))) := ⟨_, rfl⟩
 replace H : ((relex_Relex.f k t309 y312).bind fun bt315 => ((marginalialaw04_sample.f k).bind fun t321 => ((marginaliaref03_Lex.f k (⟨#[97, 32, 100, 32, 99]⟩ : ByteArray)).bind fun t324 => ((relex_Common.f k t321 t324).bind fun bt327 => ((marginalialaw04_sample.f k).bind fun t330 => ((relex_Line.f k t330 (([(⟨2, 3, (⟨#[120, 10, 121]⟩ : ByteArray)⟩ : S39)] : List (S39)))).bind fun bt336 => (if bt315.2.2.2 = 0 then ((marginaliaref03_Lex.f k (⟨#[97, 32, 120, 32, 121, 32, 99]⟩ : ByteArray)).bind fun t338 => ((marginaliaref03_Same.f k bt315.1 t338).bind fun t341 => (if t341 = true then (if bt315.2.1 ≤ 2 then (if bt315.2.2.1 ≤ 2 then (if bt327.2.2 = 0 then (if bt327.1 = 2 then (if bt327.2.1 = 2 then (if bt336.2 = 0 then (some (bt336.1 == 7)) else (some false)) else (some false)) else (some false)) else (some false)) else (some false)) else (some false)) else (some false)))) else (some false)))))))) = some r := by first | (rw [hy312]; with_reducible exact H) | (have H2_ := (Option.bind_some _ _).symm.trans H; rw [hy312]; with_reducible exact H2_) | (have H2_ := (Option.bind_some _ _).symm.trans H; with_reducible exact H2_) | with_reducible exact H | (rw [hy312]; exact H) | exact H
 have Ny312 := Aside0.mk hy312; clear hy312; replace H := Option.bind_eq_some_iff.mp H; obtain ⟨⟨t315, t318, t319, t320⟩, A20, H⟩ := H; replace H : ((marginalialaw04_sample.f k).bind fun t321 => ((marginaliaref03_Lex.f k (⟨#[97, 32, 100, 32, 99]⟩ : ByteArray)).bind fun t324 => ((relex_Common.f k t321 t324).bind fun bt327 => ((marginalialaw04_sample.f k).bind fun t330 => ((relex_Line.f k t330 (([(⟨2, 3, (⟨#[120, 10, 121]⟩ : ByteArray)⟩ : S39)] : List (S39)))).bind fun bt336 => (if t320 = 0 then ((marginaliaref03_Lex.f k (⟨#[97, 32, 120, 32, 121, 32, 99]⟩ : ByteArray)).bind fun t338 => ((marginaliaref03_Same.f k t315 t338).bind fun t341 => (if t341 = true then (if t318 ≤ 2 then (if t319 ≤ 2 then (if bt327.2.2 = 0 then (if bt327.1 = 2 then (if bt327.2.1 = 2 then (if bt336.2 = 0 then (some (bt336.1 == 7)) else (some false)) else (some false)) else (some false)) else (some false)) else (some false)) else (some false)) else (some false)))) else (some false))))))) = some r := H; have A2 := Aside0.mk A20; clear A20; replace H := zo H; obtain ⟨t321, A3, H⟩ := H; replace H := zo H; obtain ⟨t324, A4, H⟩ := H; replace H := Option.bind_eq_some_iff.mp H; obtain ⟨⟨t327, t328, t329⟩, A50, H⟩ := H; replace H : ((marginalialaw04_sample.f k).bind fun t330 => ((relex_Line.f k t330 (([(⟨2, 3, (⟨#[120, 10, 121]⟩ : ByteArray)⟩ : S39)] : List (S39)))).bind fun bt336 => (if t320 = 0 then ((marginaliaref03_Lex.f k (⟨#[97, 32, 120, 32, 121, 32, 99]⟩ : ByteArray)).bind fun t338 => ((marginaliaref03_Same.f k t315 t338).bind fun t341 => (if t341 = true then (if t318 ≤ 2 then (if t319 ≤ 2 then (if t329 = 0 then (if t327 = 2 then (if t328 = 2 then (if bt336.2 = 0 then (some (bt336.1 == 7)) else (some false)) else (some false)) else (some false)) else (some false)) else (some false)) else (some false)) else (some false)))) else (some false)))) = some r := H; have A5 := Aside0.mk A50; clear A50; replace H := zo H; obtain ⟨t330, A6, H⟩ := H
 obtain ⟨y333, hy333⟩ : ∃ y_ : List (S39), y_ = (([(⟨2, 3, (⟨#[120, 10, 121]⟩ : ByteArray)⟩ : S39)] : List (S39))) := ⟨_, rfl⟩
 replace H : ((relex_Line.f k t330 y333).bind fun bt336 => (if t320 = 0 then ((marginaliaref03_Lex.f k (⟨#[97, 32, 120, 32, 121, 32, 99]⟩ : ByteArray)).bind fun t338 => ((marginaliaref03_Same.f k t315 t338).bind fun t341 => (if t341 = true then (if t318 ≤ 2 then (if t319 ≤ 2 then (if t329 = 0 then (if t327 = 2 then (if t328 = 2 then (if bt336.2 = 0 then (some (bt336.1 == 7)) else (some false)) else (some false)) else (some false)) else (some false)) else (some false)) else (some false)) else (some false)))) else (some false))) = some r := by first | (rw [hy333]; with_reducible exact H) | (have H2_ := (Option.bind_some _ _).symm.trans H; rw [hy333]; with_reducible exact H2_) | (have H2_ := (Option.bind_some _ _).symm.trans H; with_reducible exact H2_) | with_reducible exact H | (rw [hy333]; exact H) | exact H
 have Ny333 := Aside0.mk hy333; clear hy333; replace H := Option.bind_eq_some_iff.mp H; obtain ⟨⟨t336, t337⟩, A70, H⟩ := H; replace H : (if t320 = 0 then ((marginaliaref03_Lex.f k (⟨#[97, 32, 120, 32, 121, 32, 99]⟩ : ByteArray)).bind fun t338 => ((marginaliaref03_Same.f k t315 t338).bind fun t341 => (if t341 = true then (if t318 ≤ 2 then (if t319 ≤ 2 then (if t329 = 0 then (if t327 = 2 then (if t328 = 2 then (if t337 = 0 then (some (t336 == 7)) else (some false)) else (some false)) else (some false)) else (some false)) else (some false)) else (some false)) else (some false)))) else (some false)) = some r := H; have A7 := Aside0.mk A70; clear A70; by_cases c8 : t320 = 0
 ·rw [if_pos c8] at H; have c8b0 : (t320 == 0) = true := beq_iff_eq.mpr c8; have c8b1 : (t320 != 0) = false := bne_eq_false_iff_eq.mpr c8; clear c8; replace H := zo H; obtain ⟨t338, A9, H⟩ := H; replace H := zo H; obtain ⟨t341, A10, H⟩ := H; by_cases c11 : t341 = true
  ·subst c11; rw [if_pos rfl] at H; by_cases c12 : t318 ≤ 2
   ·rw [if_pos c12] at H; have c12b0 := decide_eq_true c12; clear c12; by_cases c13 : t319 ≤ 2
    ·rw [if_pos c13] at H; have c13b0 := decide_eq_true c13; clear c13; by_cases c14 : t329 = 0
     ·rw [if_pos c14] at H; have c14b0 : (t329 == 0) = true := beq_iff_eq.mpr c14; have c14b1 : (t329 != 0) = false := bne_eq_false_iff_eq.mpr c14; clear c14; by_cases c15 : t327 = 2
      ·rw [if_pos c15] at H; have c15b0 : (t327 == 2) = true := beq_iff_eq.mpr c15; have c15b1 : (t327 != 2) = false := bne_eq_false_iff_eq.mpr c15; clear c15; by_cases c16 : t328 = 2
       ·rw [if_pos c16] at H; have c16b0 : (t328 == 2) = true := beq_iff_eq.mpr c16; have c16b1 : (t328 != 2) = false := bne_eq_false_iff_eq.mpr c16; clear c16; by_cases c17 : t337 = 0
        ·rw [if_pos c17] at H; have c17b0 : (t337 == 0) = true := beq_iff_eq.mpr c17; have c17b1 : (t337 != 0) = false := bne_eq_false_iff_eq.mpr c17; clear c17; obtain rfl := Option.some.inj H; go_enter Try.func14, Try.ntmps14
         go_wp2_with (first | ((with_reducible refine zG 39 rfl ?_); refine zg 11 Try.func39 ((marginalialaw04_sample.calls k  t309 _ A1.out).mono ?_); rintro e w18 ⟨v310, rfl, ho0, hb⟩; refine ⟨_, rfl, ?_⟩; have HO311 := Aside0.mk (Kd.R_lower ho0 (below_size zb)); replace HB := (zB hb); (try clear hb); (try clear hb2); (try clear hk); (try clear hi); (try clear ho0)) | ((with_reducible refine zD 13 rfl ?_); refine Kd.R_lit k39 _ 39 ?hg (N := 13) ?hd (xs := ([(⟨2, 3, (⟨#[120, 32, 121]⟩ : ByteArray)⟩ : S39)] : List (S39))) (inner := [.int .i64 2, .int .i64 3, .string (⟨#[120, 32, 121]⟩ : ByteArray)]) (ok := fun _ => True) (okp := fun _ => True) ?hr ?hp (fun _ hk => hk) trivial (Below.refl _ _) (Nat.le_refl _) (by simp) ?_; (case hd => rfl); (case hg => rfl); (case hr => first | (go_simp; done) | (go_simp; rfl)); (case hp => exact (Reps.c3 (show Kd.M k39 _ _ _ (⟨2, 3, (⟨#[120, 32, 121]⟩ : ByteArray)⟩ : S39) [.int .i64 2, .int .i64 3, .string (⟨#[120, 32, 121]⟩ : ByteArray)] from (k39_mkM _ _ _ (⟨2, 3, (⟨#[120, 32, 121]⟩ : ByteArray)⟩ : S39) )) (Reps.none _ _))); intro v313 w19 ho20 hb hg_ hnew_; clear hg_ hnew_; (first | rw [← Ny312.out] at ho20 | (simp only [Int.reduceToNat] at ho20; rw [← Ny312.out] at ho20)); replace HO311 := (zRb HO311 hb); have HO314 := Aside0.mk (Kd.R_lower ho20 (below_size zb)); replace HB := (zB hb); clear hb ho20; obtain ⟨Ao21, co21, eo21⟩ := Kd.R_slice HO311.out; subst eo21; obtain ⟨Ao22, co22, eo22⟩ := Kd.R_slice HO314.out; subst eo22) | ((with_reducible refine zG 12 rfl ?_); refine zg 14 Try.func12 ((relex_Relex.calls k (fun k_ => some k_ = (.slice Ao21 t309.length co21 : Value).ownBlock) _ _ t309 _ _ y312 t315 t318 t319 t320 _ ?side1 ?side2 ?side3 A2.out).mono ?_); (case side1 => exact Kd.R_V (Kd.R_tight rfl (Kd.R_apart' (HO311.out) (Kd.R_typed HO314.out) (by decide)))); (case side2 => exact zE' (Kd.R_reads' HO314.out).2.2); (case side3 => exact (Kd.R_reads' HO314.out).2.1); rintro e w23 ⟨v316, rfl, ho0, hb⟩; refine ⟨_, rfl, ?_⟩; replace HO314 := (zRb HO314 hb); have HO317 := Aside0.mk (Kd.R_lower (Kd.R_new' (Kd.R_mono (ok' := fun k_ => True) ho0 (fun _ hk_ => trivial)) (Kd.R_lt (zR HO311))) (below_size zb)); replace HO311 := Aside0.mk (Kd.R_elder' (zR HO311) (Kd.R_base ho0) hb); replace HB := (zB hb); (try clear hb); (try clear hb2); (try clear hk); (try clear hi); (try clear ho0)) | ((with_reducible refine zG 39 rfl ?_); refine zg 20 Try.func39 ((marginalialaw04_sample.calls k  t321 _ A3.out).mono ?_); rintro e w24 ⟨v322, rfl, ho0, hb⟩; refine ⟨_, rfl, ?_⟩; replace HO314 := (zRb HO314 hb); have HO323 := Aside0.mk (Kd.R_lower (Kd.R_new' (Kd.R_new' ho0 (Kd.R_lt (zR HO311))) (Kd.R_lt (zR HO317))) (below_size zb)); replace HO311 := Aside0.mk (Kd.R_elder' (zR HO311) (Kd.R_base ho0) hb); replace HO317 := Aside0.mk (Kd.R_elder' (zR HO317) (Kd.R_base ho0) hb); replace HB := (zB hb); (try clear hb); (try clear hb2); (try clear hk); (try clear hi); (try clear ho0)) | ((with_reducible refine zG 15 rfl ?_); refine zg 21 Try.func15 ((marginaliaref03_Lex.calls k (⟨#[97, 32, 100, 32, 99]⟩ : ByteArray) t324 _ A4.out).mono ?_); rintro e w25 ⟨v325, rfl, ho0, hb⟩; refine ⟨_, rfl, ?_⟩; replace HO314 := (zRb HO314 hb); have HO326 := Aside0.mk (Kd.R_lower (Kd.R_new' (Kd.R_new' (Kd.R_new' ho0 (Kd.R_lt (zR HO311))) (Kd.R_lt (zR HO317))) (Kd.R_lt (zR HO323))) (below_size zb)); replace HO311 := Aside0.mk (Kd.R_elder' (zR HO311) (Kd.R_base ho0) hb); replace HO317 := Aside0.mk (Kd.R_elder' (zR HO317) (Kd.R_base ho0) hb); replace HO323 := Aside0.mk (Kd.R_elder' (zR HO323) (Kd.R_base ho0) hb); replace HB := (zB hb); (try clear hb); (try clear hb2); (try clear hk); (try clear hi); (try clear ho0); obtain ⟨Ao26, co26, eo26⟩ := Kd.R_slice HO323.out; subst eo26; obtain ⟨Ao27, co27, eo27⟩ := Kd.R_slice HO326.out; subst eo27) | ((with_reducible refine zG 21 rfl ?_); refine zg 22 Try.func21 ((relex_Common.calls k _ _ t321 _ _ t324 t327 t328 t329 _ ?side1 ?side2 ?side3 ?side4 A5.out).mono ?_); (case side1 => exact zE' (Kd.R_reads' HO323.out).2.2); (case side2 => exact (Kd.R_reads' HO323.out).2.1); (case side3 => exact zE' (Kd.R_reads' HO326.out).2.2); (case side4 => exact (Kd.R_reads' HO326.out).2.1); rintro e w28 ⟨rfl, hb⟩; refine ⟨_, rfl, ?_⟩; replace HO311 := (zRb HO311 hb); replace HO314 := (zRb HO314 hb); replace HO317 := (zRb HO317 hb); replace HO323 := (zRb HO323 hb); replace HO326 := (zRb HO326 hb); replace HB := (zB hb); (try clear hb); (try clear hb2); (try clear hk); (try clear hi)) | ((with_reducible refine zG 39 rfl ?_); refine zg 27 Try.func39 ((marginalialaw04_sample.calls k  t330 _ A6.out).mono ?_); rintro e w29 ⟨v331, rfl, ho0, hb⟩; refine ⟨_, rfl, ?_⟩; replace HO314 := (zRb HO314 hb); have HO332 := Aside0.mk (Kd.R_lower (Kd.R_new' (Kd.R_new' (Kd.R_new' (Kd.R_new' ho0 (Kd.R_lt (zR HO311))) (Kd.R_lt (zR HO317))) (Kd.R_lt (zR HO323))) (Kd.R_lt (zR HO326))) (below_size zb)); replace HO311 := Aside0.mk (Kd.R_elder' (zR HO311) (Kd.R_base ho0) hb); replace HO317 := Aside0.mk (Kd.R_elder' (zR HO317) (Kd.R_base ho0) hb); replace HO323 := Aside0.mk (Kd.R_elder' (zR HO323) (Kd.R_base ho0) hb); replace HO326 := Aside0.mk (Kd.R_elder' (zR HO326) (Kd.R_base ho0) hb); replace HB := (zB hb); (try clear hb); (try clear hb2); (try clear hk); (try clear hi); (try clear ho0)) | ((with_reducible refine zD 29 rfl ?_); refine Kd.R_lit k39 _ 39 ?hg (N := 29) ?hd (xs := ([(⟨2, 3, (⟨#[120, 10, 121]⟩ : ByteArray)⟩ : S39)] : List (S39))) (inner := [.int .i64 2, .int .i64 3, .string (⟨#[120, 10, 121]⟩ : ByteArray)]) (ok := fun _ => True) (okp := fun _ => True) ?hr ?hp (fun _ hk => hk) trivial (Below.refl _ _) (Nat.le_refl _) (by simp) ?_; (case hd => rfl); (case hg => rfl); (case hr => first | (go_simp; done) | (go_simp; rfl)); (case hp => exact (Reps.c3 (show Kd.M k39 _ _ _ (⟨2, 3, (⟨#[120, 10, 121]⟩ : ByteArray)⟩ : S39) [.int .i64 2, .int .i64 3, .string (⟨#[120, 10, 121]⟩ : ByteArray)] from (k39_mkM _ _ _ (⟨2, 3, (⟨#[120, 10, 121]⟩ : ByteArray)⟩ : S39) )) (Reps.none _ _))); intro v334 w30 ho31 hb hg_ hnew_; clear hg_ hnew_; (first | rw [← Ny333.out] at ho31 | (simp only [Int.reduceToNat] at ho31; rw [← Ny333.out] at ho31)); replace HO311 := (zRb HO311 hb); replace HO317 := (zRb HO317 hb); replace HO323 := (zRb HO323 hb); replace HO326 := (zRb HO326 hb); replace HO332 := (zRb HO332 hb); have HO335 := Aside0.mk (Kd.R_lower (Kd.R_new' ho31 (Kd.R_lt (zR HO314))) (below_size zb)); replace HO314 := Aside0.mk (Kd.R_elder' (zR HO314) (Kd.R_base ho31) hb); replace HB := (zB hb); clear hb ho31; obtain ⟨Ao32, co32, eo32⟩ := Kd.R_slice HO332.out; subst eo32; obtain ⟨Ao33, co33, eo33⟩ := Kd.R_slice HO335.out; subst eo33) | ((with_reducible refine zG 23 rfl ?_); refine zg 30 Try.func23 ((relex_Line.calls k _ _ t330 _ _ y333 t336 t337 _ ?side1 ?side2 ?side3 ?side4 A7.out).mono ?_); (case side1 => exact zE' (Kd.R_reads' HO332.out).2.2); (case side2 => exact (Kd.R_reads' HO332.out).2.1); (case side3 => exact zE' (Kd.R_reads' HO335.out).2.2); (case side4 => exact (Kd.R_reads' HO335.out).2.1); rintro e w34 ⟨rfl, hb⟩; refine ⟨_, rfl, ?_⟩; replace HO311 := (zRb HO311 hb); replace HO314 := (zRb HO314 hb); replace HO317 := (zRb HO317 hb); replace HO323 := (zRb HO323 hb); replace HO326 := (zRb HO326 hb); replace HO332 := (zRb HO332 hb); replace HO335 := (zRb HO335 hb); replace HB := (zB hb); (try clear hb); (try clear hb2); (try clear hk); (try clear hi)) | (go_at_call 15; (with_reducible refine (marginaliaref03_Lex.calls k (⟨#[97, 32, 120, 32, 121, 32, 99]⟩ : ByteArray) t338 _ A9.out).mono ?_); rintro e w35 ⟨v339, rfl, ho0, hb⟩; replace HO314 := (zRb HO314 hb); replace HO335 := (zRb HO335 hb); have HO340 := Aside0.mk (Kd.R_lower (Kd.R_new' (Kd.R_new' (Kd.R_new' (Kd.R_new' (Kd.R_new' ho0 (Kd.R_lt (zR HO311))) (Kd.R_lt (zR HO317))) (Kd.R_lt (zR HO323))) (Kd.R_lt (zR HO326))) (Kd.R_lt (zR HO332))) (below_size zb)); replace HO311 := Aside0.mk (Kd.R_elder' (zR HO311) (Kd.R_base ho0) hb); replace HO317 := Aside0.mk (Kd.R_elder' (zR HO317) (Kd.R_base ho0) hb); replace HO323 := Aside0.mk (Kd.R_elder' (zR HO323) (Kd.R_base ho0) hb); replace HO326 := Aside0.mk (Kd.R_elder' (zR HO326) (Kd.R_base ho0) hb); replace HO332 := Aside0.mk (Kd.R_elder' (zR HO332) (Kd.R_base ho0) hb); replace HB := (zB hb); (try clear hb); (try clear hb2); (try clear hk); (try clear hi); (try clear ho0); obtain ⟨Ao36, co36, eo36⟩ := Kd.R_slice HO317.out; subst eo36; obtain ⟨Ao37, co37, eo37⟩ := Kd.R_slice HO340.out; subst eo37) | (go_at_call 18; (with_reducible refine (marginaliaref03_Same.calls k _ _ t315 _ _ t338 true _ ?side1 ?side2 ?side3 ?side4 A10.out).mono ?_); (case side1 => exact zE' (Kd.R_reads' HO317.out).2.2); (case side2 => exact (Kd.R_reads' HO317.out).2.1); (case side3 => exact zE' (Kd.R_reads' HO340.out).2.2); (case side4 => exact (Kd.R_reads' HO340.out).2.1); rintro e w' ⟨rfl, ⟨nd, rfl⟩⟩))
         go_ret; exact ⟨zr, zb⟩
        ·rw [if_neg c17] at H; have c17b0 : (t337 == 0) = false := beq_eq_false_iff_ne.mpr c17; have c17b1 : (t337 != 0) = true := bne_iff_ne.mpr c17; obtain rfl := Option.some.inj H; go_enter Try.func14, Try.ntmps14
         go_wp2_with (first | ((with_reducible refine zG 39 rfl ?_); refine zg 11 Try.func39 ((marginalialaw04_sample.calls k  t309 _ A1.out).mono ?_); rintro e w38 ⟨v310, rfl, ho0, hb⟩; refine ⟨_, rfl, ?_⟩; have HO311 := Aside0.mk (Kd.R_lower ho0 (below_size zb)); replace HB := (zB hb); (try clear hb); (try clear hb2); (try clear hk); (try clear hi); (try clear ho0)) | ((with_reducible refine zD 13 rfl ?_); refine Kd.R_lit k39 _ 39 ?hg (N := 13) ?hd (xs := ([(⟨2, 3, (⟨#[120, 32, 121]⟩ : ByteArray)⟩ : S39)] : List (S39))) (inner := [.int .i64 2, .int .i64 3, .string (⟨#[120, 32, 121]⟩ : ByteArray)]) (ok := fun _ => True) (okp := fun _ => True) ?hr ?hp (fun _ hk => hk) trivial (Below.refl _ _) (Nat.le_refl _) (by simp) ?_; (case hd => rfl); (case hg => rfl); (case hr => first | (go_simp; done) | (go_simp; rfl)); (case hp => exact (Reps.c3 (show Kd.M k39 _ _ _ (⟨2, 3, (⟨#[120, 32, 121]⟩ : ByteArray)⟩ : S39) [.int .i64 2, .int .i64 3, .string (⟨#[120, 32, 121]⟩ : ByteArray)] from (k39_mkM _ _ _ (⟨2, 3, (⟨#[120, 32, 121]⟩ : ByteArray)⟩ : S39) )) (Reps.none _ _))); intro v313 w39 ho40 hb hg_ hnew_; clear hg_ hnew_; (first | rw [← Ny312.out] at ho40 | (simp only [Int.reduceToNat] at ho40; rw [← Ny312.out] at ho40)); replace HO311 := (zRb HO311 hb); have HO314 := Aside0.mk (Kd.R_lower ho40 (below_size zb)); replace HB := (zB hb); clear hb ho40; obtain ⟨Ao41, co41, eo41⟩ := Kd.R_slice HO311.out; subst eo41; obtain ⟨Ao42, co42, eo42⟩ := Kd.R_slice HO314.out; subst eo42) | ((with_reducible refine zG 12 rfl ?_); refine zg 14 Try.func12 ((relex_Relex.calls k (fun k_ => some k_ = (.slice Ao41 t309.length co41 : Value).ownBlock) _ _ t309 _ _ y312 t315 t318 t319 t320 _ ?side1 ?side2 ?side3 A2.out).mono ?_); (case side1 => exact Kd.R_V (Kd.R_tight rfl (Kd.R_apart' (HO311.out) (Kd.R_typed HO314.out) (by decide)))); (case side2 => exact zE' (Kd.R_reads' HO314.out).2.2); (case side3 => exact (Kd.R_reads' HO314.out).2.1); rintro e w43 ⟨v316, rfl, ho0, hb⟩; refine ⟨_, rfl, ?_⟩; replace HO314 := (zRb HO314 hb); have HO317 := Aside0.mk (Kd.R_lower (Kd.R_new' (Kd.R_mono (ok' := fun k_ => True) ho0 (fun _ hk_ => trivial)) (Kd.R_lt (zR HO311))) (below_size zb)); replace HO311 := Aside0.mk (Kd.R_elder' (zR HO311) (Kd.R_base ho0) hb); replace HB := (zB hb); (try clear hb); (try clear hb2); (try clear hk); (try clear hi); (try clear ho0)) | ((with_reducible refine zG 39 rfl ?_); refine zg 20 Try.func39 ((marginalialaw04_sample.calls k  t321 _ A3.out).mono ?_); rintro e w44 ⟨v322, rfl, ho0, hb⟩; refine ⟨_, rfl, ?_⟩; replace HO314 := (zRb HO314 hb); have HO323 := Aside0.mk (Kd.R_lower (Kd.R_new' (Kd.R_new' ho0 (Kd.R_lt (zR HO311))) (Kd.R_lt (zR HO317))) (below_size zb)); replace HO311 := Aside0.mk (Kd.R_elder' (zR HO311) (Kd.R_base ho0) hb); replace HO317 := Aside0.mk (Kd.R_elder' (zR HO317) (Kd.R_base ho0) hb); replace HB := (zB hb); (try clear hb); (try clear hb2); (try clear hk); (try clear hi); (try clear ho0)) | ((with_reducible refine zG 15 rfl ?_); refine zg 21 Try.func15 ((marginaliaref03_Lex.calls k (⟨#[97, 32, 100, 32, 99]⟩ : ByteArray) t324 _ A4.out).mono ?_); rintro e w45 ⟨v325, rfl, ho0, hb⟩; refine ⟨_, rfl, ?_⟩; replace HO314 := (zRb HO314 hb); have HO326 := Aside0.mk (Kd.R_lower (Kd.R_new' (Kd.R_new' (Kd.R_new' ho0 (Kd.R_lt (zR HO311))) (Kd.R_lt (zR HO317))) (Kd.R_lt (zR HO323))) (below_size zb)); replace HO311 := Aside0.mk (Kd.R_elder' (zR HO311) (Kd.R_base ho0) hb); replace HO317 := Aside0.mk (Kd.R_elder' (zR HO317) (Kd.R_base ho0) hb); replace HO323 := Aside0.mk (Kd.R_elder' (zR HO323) (Kd.R_base ho0) hb); replace HB := (zB hb); (try clear hb); (try clear hb2); (try clear hk); (try clear hi); (try clear ho0); obtain ⟨Ao46, co46, eo46⟩ := Kd.R_slice HO323.out; subst eo46; obtain ⟨Ao47, co47, eo47⟩ := Kd.R_slice HO326.out; subst eo47) | ((with_reducible refine zG 21 rfl ?_); refine zg 22 Try.func21 ((relex_Common.calls k _ _ t321 _ _ t324 t327 t328 t329 _ ?side1 ?side2 ?side3 ?side4 A5.out).mono ?_); (case side1 => exact zE' (Kd.R_reads' HO323.out).2.2); (case side2 => exact (Kd.R_reads' HO323.out).2.1); (case side3 => exact zE' (Kd.R_reads' HO326.out).2.2); (case side4 => exact (Kd.R_reads' HO326.out).2.1); rintro e w48 ⟨rfl, hb⟩; refine ⟨_, rfl, ?_⟩; replace HO311 := (zRb HO311 hb); replace HO314 := (zRb HO314 hb); replace HO317 := (zRb HO317 hb); replace HO323 := (zRb HO323 hb); replace HO326 := (zRb HO326 hb); replace HB := (zB hb); (try clear hb); (try clear hb2); (try clear hk); (try clear hi)) | ((with_reducible refine zG 39 rfl ?_); refine zg 27 Try.func39 ((marginalialaw04_sample.calls k  t330 _ A6.out).mono ?_); rintro e w49 ⟨v331, rfl, ho0, hb⟩; refine ⟨_, rfl, ?_⟩; replace HO314 := (zRb HO314 hb); have HO332 := Aside0.mk (Kd.R_lower (Kd.R_new' (Kd.R_new' (Kd.R_new' (Kd.R_new' ho0 (Kd.R_lt (zR HO311))) (Kd.R_lt (zR HO317))) (Kd.R_lt (zR HO323))) (Kd.R_lt (zR HO326))) (below_size zb)); replace HO311 := Aside0.mk (Kd.R_elder' (zR HO311) (Kd.R_base ho0) hb); replace HO317 := Aside0.mk (Kd.R_elder' (zR HO317) (Kd.R_base ho0) hb); replace HO323 := Aside0.mk (Kd.R_elder' (zR HO323) (Kd.R_base ho0) hb); replace HO326 := Aside0.mk (Kd.R_elder' (zR HO326) (Kd.R_base ho0) hb); replace HB := (zB hb); (try clear hb); (try clear hb2); (try clear hk); (try clear hi); (try clear ho0)) | ((with_reducible refine zD 29 rfl ?_); refine Kd.R_lit k39 _ 39 ?hg (N := 29) ?hd (xs := ([(⟨2, 3, (⟨#[120, 10, 121]⟩ : ByteArray)⟩ : S39)] : List (S39))) (inner := [.int .i64 2, .int .i64 3, .string (⟨#[120, 10, 121]⟩ : ByteArray)]) (ok := fun _ => True) (okp := fun _ => True) ?hr ?hp (fun _ hk => hk) trivial (Below.refl _ _) (Nat.le_refl _) (by simp) ?_; (case hd => rfl); (case hg => rfl); (case hr => first | (go_simp; done) | (go_simp; rfl)); (case hp => exact (Reps.c3 (show Kd.M k39 _ _ _ (⟨2, 3, (⟨#[120, 10, 121]⟩ : ByteArray)⟩ : S39) [.int .i64 2, .int .i64 3, .string (⟨#[120, 10, 121]⟩ : ByteArray)] from (k39_mkM _ _ _ (⟨2, 3, (⟨#[120, 10, 121]⟩ : ByteArray)⟩ : S39) )) (Reps.none _ _))); intro v334 w50 ho51 hb hg_ hnew_; clear hg_ hnew_; (first | rw [← Ny333.out] at ho51 | (simp only [Int.reduceToNat] at ho51; rw [← Ny333.out] at ho51)); replace HO311 := (zRb HO311 hb); replace HO317 := (zRb HO317 hb); replace HO323 := (zRb HO323 hb); replace HO326 := (zRb HO326 hb); replace HO332 := (zRb HO332 hb); have HO335 := Aside0.mk (Kd.R_lower (Kd.R_new' ho51 (Kd.R_lt (zR HO314))) (below_size zb)); replace HO314 := Aside0.mk (Kd.R_elder' (zR HO314) (Kd.R_base ho51) hb); replace HB := (zB hb); clear hb ho51; obtain ⟨Ao52, co52, eo52⟩ := Kd.R_slice HO332.out; subst eo52; obtain ⟨Ao53, co53, eo53⟩ := Kd.R_slice HO335.out; subst eo53) | ((with_reducible refine zG 23 rfl ?_); refine zg 30 Try.func23 ((relex_Line.calls k _ _ t330 _ _ y333 t336 t337 _ ?side1 ?side2 ?side3 ?side4 A7.out).mono ?_); (case side1 => exact zE' (Kd.R_reads' HO332.out).2.2); (case side2 => exact (Kd.R_reads' HO332.out).2.1); (case side3 => exact zE' (Kd.R_reads' HO335.out).2.2); (case side4 => exact (Kd.R_reads' HO335.out).2.1); rintro e w54 ⟨rfl, hb⟩; refine ⟨_, rfl, ?_⟩; replace HO311 := (zRb HO311 hb); replace HO314 := (zRb HO314 hb); replace HO317 := (zRb HO317 hb); replace HO323 := (zRb HO323 hb); replace HO326 := (zRb HO326 hb); replace HO332 := (zRb HO332 hb); replace HO335 := (zRb HO335 hb); replace HB := (zB hb); (try clear hb); (try clear hb2); (try clear hk); (try clear hi)) | (go_at_call 15; (with_reducible refine (marginaliaref03_Lex.calls k (⟨#[97, 32, 120, 32, 121, 32, 99]⟩ : ByteArray) t338 _ A9.out).mono ?_); rintro e w55 ⟨v339, rfl, ho0, hb⟩; replace HO314 := (zRb HO314 hb); replace HO335 := (zRb HO335 hb); have HO340 := Aside0.mk (Kd.R_lower (Kd.R_new' (Kd.R_new' (Kd.R_new' (Kd.R_new' (Kd.R_new' ho0 (Kd.R_lt (zR HO311))) (Kd.R_lt (zR HO317))) (Kd.R_lt (zR HO323))) (Kd.R_lt (zR HO326))) (Kd.R_lt (zR HO332))) (below_size zb)); replace HO311 := Aside0.mk (Kd.R_elder' (zR HO311) (Kd.R_base ho0) hb); replace HO317 := Aside0.mk (Kd.R_elder' (zR HO317) (Kd.R_base ho0) hb); replace HO323 := Aside0.mk (Kd.R_elder' (zR HO323) (Kd.R_base ho0) hb); replace HO326 := Aside0.mk (Kd.R_elder' (zR HO326) (Kd.R_base ho0) hb); replace HO332 := Aside0.mk (Kd.R_elder' (zR HO332) (Kd.R_base ho0) hb); replace HB := (zB hb); (try clear hb); (try clear hb2); (try clear hk); (try clear hi); (try clear ho0); obtain ⟨Ao56, co56, eo56⟩ := Kd.R_slice HO317.out; subst eo56; obtain ⟨Ao57, co57, eo57⟩ := Kd.R_slice HO340.out; subst eo57) | (go_at_call 18; (with_reducible refine (marginaliaref03_Same.calls k _ _ t315 _ _ t338 true _ ?side1 ?side2 ?side3 ?side4 A10.out).mono ?_); (case side1 => exact zE' (Kd.R_reads' HO317.out).2.2); (case side2 => exact (Kd.R_reads' HO317.out).2.1); (case side3 => exact zE' (Kd.R_reads' HO340.out).2.2); (case side4 => exact (Kd.R_reads' HO340.out).2.1); rintro e w' ⟨rfl, ⟨nd, rfl⟩⟩))
         go_ret; exact ⟨zr, zb⟩
       ·rw [if_neg c16] at H; have c16b0 : (t328 == 2) = false := beq_eq_false_iff_ne.mpr c16; have c16b1 : (t328 != 2) = true := bne_iff_ne.mpr c16; obtain rfl := Option.some.inj H; go_enter Try.func14, Try.ntmps14
        go_wp2_with (first | ((with_reducible refine zG 39 rfl ?_); refine zg 11 Try.func39 ((marginalialaw04_sample.calls k  t309 _ A1.out).mono ?_); rintro e w58 ⟨v310, rfl, ho0, hb⟩; refine ⟨_, rfl, ?_⟩; have HO311 := Aside0.mk (Kd.R_lower ho0 (below_size zb)); replace HB := (zB hb); (try clear hb); (try clear hb2); (try clear hk); (try clear hi); (try clear ho0)) | ((with_reducible refine zD 13 rfl ?_); refine Kd.R_lit k39 _ 39 ?hg (N := 13) ?hd (xs := ([(⟨2, 3, (⟨#[120, 32, 121]⟩ : ByteArray)⟩ : S39)] : List (S39))) (inner := [.int .i64 2, .int .i64 3, .string (⟨#[120, 32, 121]⟩ : ByteArray)]) (ok := fun _ => True) (okp := fun _ => True) ?hr ?hp (fun _ hk => hk) trivial (Below.refl _ _) (Nat.le_refl _) (by simp) ?_; (case hd => rfl); (case hg => rfl); (case hr => first | (go_simp; done) | (go_simp; rfl)); (case hp => exact (Reps.c3 (show Kd.M k39 _ _ _ (⟨2, 3, (⟨#[120, 32, 121]⟩ : ByteArray)⟩ : S39) [.int .i64 2, .int .i64 3, .string (⟨#[120, 32, 121]⟩ : ByteArray)] from (k39_mkM _ _ _ (⟨2, 3, (⟨#[120, 32, 121]⟩ : ByteArray)⟩ : S39) )) (Reps.none _ _))); intro v313 w59 ho60 hb hg_ hnew_; clear hg_ hnew_; (first | rw [← Ny312.out] at ho60 | (simp only [Int.reduceToNat] at ho60; rw [← Ny312.out] at ho60)); replace HO311 := (zRb HO311 hb); have HO314 := Aside0.mk (Kd.R_lower ho60 (below_size zb)); replace HB := (zB hb); clear hb ho60; obtain ⟨Ao61, co61, eo61⟩ := Kd.R_slice HO311.out; subst eo61; obtain ⟨Ao62, co62, eo62⟩ := Kd.R_slice HO314.out; subst eo62) | ((with_reducible refine zG 12 rfl ?_); refine zg 14 Try.func12 ((relex_Relex.calls k (fun k_ => some k_ = (.slice Ao61 t309.length co61 : Value).ownBlock) _ _ t309 _ _ y312 t315 t318 t319 t320 _ ?side1 ?side2 ?side3 A2.out).mono ?_); (case side1 => exact Kd.R_V (Kd.R_tight rfl (Kd.R_apart' (HO311.out) (Kd.R_typed HO314.out) (by decide)))); (case side2 => exact zE' (Kd.R_reads' HO314.out).2.2); (case side3 => exact (Kd.R_reads' HO314.out).2.1); rintro e w63 ⟨v316, rfl, ho0, hb⟩; refine ⟨_, rfl, ?_⟩; replace HO314 := (zRb HO314 hb); have HO317 := Aside0.mk (Kd.R_lower (Kd.R_new' (Kd.R_mono (ok' := fun k_ => True) ho0 (fun _ hk_ => trivial)) (Kd.R_lt (zR HO311))) (below_size zb)); replace HO311 := Aside0.mk (Kd.R_elder' (zR HO311) (Kd.R_base ho0) hb); replace HB := (zB hb); (try clear hb); (try clear hb2); (try clear hk); (try clear hi); (try clear ho0)) | ((with_reducible refine zG 39 rfl ?_); refine zg 20 Try.func39 ((marginalialaw04_sample.calls k  t321 _ A3.out).mono ?_); rintro e w64 ⟨v322, rfl, ho0, hb⟩; refine ⟨_, rfl, ?_⟩; replace HO314 := (zRb HO314 hb); have HO323 := Aside0.mk (Kd.R_lower (Kd.R_new' (Kd.R_new' ho0 (Kd.R_lt (zR HO311))) (Kd.R_lt (zR HO317))) (below_size zb)); replace HO311 := Aside0.mk (Kd.R_elder' (zR HO311) (Kd.R_base ho0) hb); replace HO317 := Aside0.mk (Kd.R_elder' (zR HO317) (Kd.R_base ho0) hb); replace HB := (zB hb); (try clear hb); (try clear hb2); (try clear hk); (try clear hi); (try clear ho0)) | ((with_reducible refine zG 15 rfl ?_); refine zg 21 Try.func15 ((marginaliaref03_Lex.calls k (⟨#[97, 32, 100, 32, 99]⟩ : ByteArray) t324 _ A4.out).mono ?_); rintro e w65 ⟨v325, rfl, ho0, hb⟩; refine ⟨_, rfl, ?_⟩; replace HO314 := (zRb HO314 hb); have HO326 := Aside0.mk (Kd.R_lower (Kd.R_new' (Kd.R_new' (Kd.R_new' ho0 (Kd.R_lt (zR HO311))) (Kd.R_lt (zR HO317))) (Kd.R_lt (zR HO323))) (below_size zb)); replace HO311 := Aside0.mk (Kd.R_elder' (zR HO311) (Kd.R_base ho0) hb); replace HO317 := Aside0.mk (Kd.R_elder' (zR HO317) (Kd.R_base ho0) hb); replace HO323 := Aside0.mk (Kd.R_elder' (zR HO323) (Kd.R_base ho0) hb); replace HB := (zB hb); (try clear hb); (try clear hb2); (try clear hk); (try clear hi); (try clear ho0); obtain ⟨Ao66, co66, eo66⟩ := Kd.R_slice HO323.out; subst eo66; obtain ⟨Ao67, co67, eo67⟩ := Kd.R_slice HO326.out; subst eo67) | ((with_reducible refine zG 21 rfl ?_); refine zg 22 Try.func21 ((relex_Common.calls k _ _ t321 _ _ t324 t327 t328 t329 _ ?side1 ?side2 ?side3 ?side4 A5.out).mono ?_); (case side1 => exact zE' (Kd.R_reads' HO323.out).2.2); (case side2 => exact (Kd.R_reads' HO323.out).2.1); (case side3 => exact zE' (Kd.R_reads' HO326.out).2.2); (case side4 => exact (Kd.R_reads' HO326.out).2.1); rintro e w68 ⟨rfl, hb⟩; refine ⟨_, rfl, ?_⟩; replace HO311 := (zRb HO311 hb); replace HO314 := (zRb HO314 hb); replace HO317 := (zRb HO317 hb); replace HO323 := (zRb HO323 hb); replace HO326 := (zRb HO326 hb); replace HB := (zB hb); (try clear hb); (try clear hb2); (try clear hk); (try clear hi)) | ((with_reducible refine zG 39 rfl ?_); refine zg 27 Try.func39 ((marginalialaw04_sample.calls k  t330 _ A6.out).mono ?_); rintro e w69 ⟨v331, rfl, ho0, hb⟩; refine ⟨_, rfl, ?_⟩; replace HO314 := (zRb HO314 hb); have HO332 := Aside0.mk (Kd.R_lower (Kd.R_new' (Kd.R_new' (Kd.R_new' (Kd.R_new' ho0 (Kd.R_lt (zR HO311))) (Kd.R_lt (zR HO317))) (Kd.R_lt (zR HO323))) (Kd.R_lt (zR HO326))) (below_size zb)); replace HO311 := Aside0.mk (Kd.R_elder' (zR HO311) (Kd.R_base ho0) hb); replace HO317 := Aside0.mk (Kd.R_elder' (zR HO317) (Kd.R_base ho0) hb); replace HO323 := Aside0.mk (Kd.R_elder' (zR HO323) (Kd.R_base ho0) hb); replace HO326 := Aside0.mk (Kd.R_elder' (zR HO326) (Kd.R_base ho0) hb); replace HB := (zB hb); (try clear hb); (try clear hb2); (try clear hk); (try clear hi); (try clear ho0)) | ((with_reducible refine zD 29 rfl ?_); refine Kd.R_lit k39 _ 39 ?hg (N := 29) ?hd (xs := ([(⟨2, 3, (⟨#[120, 10, 121]⟩ : ByteArray)⟩ : S39)] : List (S39))) (inner := [.int .i64 2, .int .i64 3, .string (⟨#[120, 10, 121]⟩ : ByteArray)]) (ok := fun _ => True) (okp := fun _ => True) ?hr ?hp (fun _ hk => hk) trivial (Below.refl _ _) (Nat.le_refl _) (by simp) ?_; (case hd => rfl); (case hg => rfl); (case hr => first | (go_simp; done) | (go_simp; rfl)); (case hp => exact (Reps.c3 (show Kd.M k39 _ _ _ (⟨2, 3, (⟨#[120, 10, 121]⟩ : ByteArray)⟩ : S39) [.int .i64 2, .int .i64 3, .string (⟨#[120, 10, 121]⟩ : ByteArray)] from (k39_mkM _ _ _ (⟨2, 3, (⟨#[120, 10, 121]⟩ : ByteArray)⟩ : S39) )) (Reps.none _ _))); intro v334 w70 ho71 hb hg_ hnew_; clear hg_ hnew_; (first | rw [← Ny333.out] at ho71 | (simp only [Int.reduceToNat] at ho71; rw [← Ny333.out] at ho71)); replace HO311 := (zRb HO311 hb); replace HO317 := (zRb HO317 hb); replace HO323 := (zRb HO323 hb); replace HO326 := (zRb HO326 hb); replace HO332 := (zRb HO332 hb); have HO335 := Aside0.mk (Kd.R_lower (Kd.R_new' ho71 (Kd.R_lt (zR HO314))) (below_size zb)); replace HO314 := Aside0.mk (Kd.R_elder' (zR HO314) (Kd.R_base ho71) hb); replace HB := (zB hb); clear hb ho71; obtain ⟨Ao72, co72, eo72⟩ := Kd.R_slice HO332.out; subst eo72; obtain ⟨Ao73, co73, eo73⟩ := Kd.R_slice HO335.out; subst eo73) | ((with_reducible refine zG 23 rfl ?_); refine zg 30 Try.func23 ((relex_Line.calls k _ _ t330 _ _ y333 t336 t337 _ ?side1 ?side2 ?side3 ?side4 A7.out).mono ?_); (case side1 => exact zE' (Kd.R_reads' HO332.out).2.2); (case side2 => exact (Kd.R_reads' HO332.out).2.1); (case side3 => exact zE' (Kd.R_reads' HO335.out).2.2); (case side4 => exact (Kd.R_reads' HO335.out).2.1); rintro e w74 ⟨rfl, hb⟩; refine ⟨_, rfl, ?_⟩; replace HO311 := (zRb HO311 hb); replace HO314 := (zRb HO314 hb); replace HO317 := (zRb HO317 hb); replace HO323 := (zRb HO323 hb); replace HO326 := (zRb HO326 hb); replace HO332 := (zRb HO332 hb); replace HO335 := (zRb HO335 hb); replace HB := (zB hb); (try clear hb); (try clear hb2); (try clear hk); (try clear hi)) | (go_at_call 15; (with_reducible refine (marginaliaref03_Lex.calls k (⟨#[97, 32, 120, 32, 121, 32, 99]⟩ : ByteArray) t338 _ A9.out).mono ?_); rintro e w75 ⟨v339, rfl, ho0, hb⟩; replace HO314 := (zRb HO314 hb); replace HO335 := (zRb HO335 hb); have HO340 := Aside0.mk (Kd.R_lower (Kd.R_new' (Kd.R_new' (Kd.R_new' (Kd.R_new' (Kd.R_new' ho0 (Kd.R_lt (zR HO311))) (Kd.R_lt (zR HO317))) (Kd.R_lt (zR HO323))) (Kd.R_lt (zR HO326))) (Kd.R_lt (zR HO332))) (below_size zb)); replace HO311 := Aside0.mk (Kd.R_elder' (zR HO311) (Kd.R_base ho0) hb); replace HO317 := Aside0.mk (Kd.R_elder' (zR HO317) (Kd.R_base ho0) hb); replace HO323 := Aside0.mk (Kd.R_elder' (zR HO323) (Kd.R_base ho0) hb); replace HO326 := Aside0.mk (Kd.R_elder' (zR HO326) (Kd.R_base ho0) hb); replace HO332 := Aside0.mk (Kd.R_elder' (zR HO332) (Kd.R_base ho0) hb); replace HB := (zB hb); (try clear hb); (try clear hb2); (try clear hk); (try clear hi); (try clear ho0); obtain ⟨Ao76, co76, eo76⟩ := Kd.R_slice HO317.out; subst eo76; obtain ⟨Ao77, co77, eo77⟩ := Kd.R_slice HO340.out; subst eo77) | (go_at_call 18; (with_reducible refine (marginaliaref03_Same.calls k _ _ t315 _ _ t338 true _ ?side1 ?side2 ?side3 ?side4 A10.out).mono ?_); (case side1 => exact zE' (Kd.R_reads' HO317.out).2.2); (case side2 => exact (Kd.R_reads' HO317.out).2.1); (case side3 => exact zE' (Kd.R_reads' HO340.out).2.2); (case side4 => exact (Kd.R_reads' HO340.out).2.1); rintro e w' ⟨rfl, ⟨nd, rfl⟩⟩))
        go_ret; exact ⟨zr, zb⟩
      ·rw [if_neg c15] at H; have c15b0 : (t327 == 2) = false := beq_eq_false_iff_ne.mpr c15; have c15b1 : (t327 != 2) = true := bne_iff_ne.mpr c15; obtain rfl := Option.some.inj H; go_enter Try.func14, Try.ntmps14
       go_wp2_with (first | ((with_reducible refine zG 39 rfl ?_); refine zg 11 Try.func39 ((marginalialaw04_sample.calls k  t309 _ A1.out).mono ?_); rintro e w78 ⟨v310, rfl, ho0, hb⟩; refine ⟨_, rfl, ?_⟩; have HO311 := Aside0.mk (Kd.R_lower ho0 (below_size zb)); replace HB := (zB hb); (try clear hb); (try clear hb2); (try clear hk); (try clear hi); (try clear ho0)) | ((with_reducible refine zD 13 rfl ?_); refine Kd.R_lit k39 _ 39 ?hg (N := 13) ?hd (xs := ([(⟨2, 3, (⟨#[120, 32, 121]⟩ : ByteArray)⟩ : S39)] : List (S39))) (inner := [.int .i64 2, .int .i64 3, .string (⟨#[120, 32, 121]⟩ : ByteArray)]) (ok := fun _ => True) (okp := fun _ => True) ?hr ?hp (fun _ hk => hk) trivial (Below.refl _ _) (Nat.le_refl _) (by simp) ?_; (case hd => rfl); (case hg => rfl); (case hr => first | (go_simp; done) | (go_simp; rfl)); (case hp => exact (Reps.c3 (show Kd.M k39 _ _ _ (⟨2, 3, (⟨#[120, 32, 121]⟩ : ByteArray)⟩ : S39) [.int .i64 2, .int .i64 3, .string (⟨#[120, 32, 121]⟩ : ByteArray)] from (k39_mkM _ _ _ (⟨2, 3, (⟨#[120, 32, 121]⟩ : ByteArray)⟩ : S39) )) (Reps.none _ _))); intro v313 w79 ho80 hb hg_ hnew_; clear hg_ hnew_; (first | rw [← Ny312.out] at ho80 | (simp only [Int.reduceToNat] at ho80; rw [← Ny312.out] at ho80)); replace HO311 := (zRb HO311 hb); have HO314 := Aside0.mk (Kd.R_lower ho80 (below_size zb)); replace HB := (zB hb); clear hb ho80; obtain ⟨Ao81, co81, eo81⟩ := Kd.R_slice HO311.out; subst eo81; obtain ⟨Ao82, co82, eo82⟩ := Kd.R_slice HO314.out; subst eo82) | ((with_reducible refine zG 12 rfl ?_); refine zg 14 Try.func12 ((relex_Relex.calls k (fun k_ => some k_ = (.slice Ao81 t309.length co81 : Value).ownBlock) _ _ t309 _ _ y312 t315 t318 t319 t320 _ ?side1 ?side2 ?side3 A2.out).mono ?_); (case side1 => exact Kd.R_V (Kd.R_tight rfl (Kd.R_apart' (HO311.out) (Kd.R_typed HO314.out) (by decide)))); (case side2 => exact zE' (Kd.R_reads' HO314.out).2.2); (case side3 => exact (Kd.R_reads' HO314.out).2.1); rintro e w83 ⟨v316, rfl, ho0, hb⟩; refine ⟨_, rfl, ?_⟩; replace HO314 := (zRb HO314 hb); have HO317 := Aside0.mk (Kd.R_lower (Kd.R_new' (Kd.R_mono (ok' := fun k_ => True) ho0 (fun _ hk_ => trivial)) (Kd.R_lt (zR HO311))) (below_size zb)); replace HO311 := Aside0.mk (Kd.R_elder' (zR HO311) (Kd.R_base ho0) hb); replace HB := (zB hb); (try clear hb); (try clear hb2); (try clear hk); (try clear hi); (try clear ho0)) | ((with_reducible refine zG 39 rfl ?_); refine zg 20 Try.func39 ((marginalialaw04_sample.calls k  t321 _ A3.out).mono ?_); rintro e w84 ⟨v322, rfl, ho0, hb⟩; refine ⟨_, rfl, ?_⟩; replace HO314 := (zRb HO314 hb); have HO323 := Aside0.mk (Kd.R_lower (Kd.R_new' (Kd.R_new' ho0 (Kd.R_lt (zR HO311))) (Kd.R_lt (zR HO317))) (below_size zb)); replace HO311 := Aside0.mk (Kd.R_elder' (zR HO311) (Kd.R_base ho0) hb); replace HO317 := Aside0.mk (Kd.R_elder' (zR HO317) (Kd.R_base ho0) hb); replace HB := (zB hb); (try clear hb); (try clear hb2); (try clear hk); (try clear hi); (try clear ho0)) | ((with_reducible refine zG 15 rfl ?_); refine zg 21 Try.func15 ((marginaliaref03_Lex.calls k (⟨#[97, 32, 100, 32, 99]⟩ : ByteArray) t324 _ A4.out).mono ?_); rintro e w85 ⟨v325, rfl, ho0, hb⟩; refine ⟨_, rfl, ?_⟩; replace HO314 := (zRb HO314 hb); have HO326 := Aside0.mk (Kd.R_lower (Kd.R_new' (Kd.R_new' (Kd.R_new' ho0 (Kd.R_lt (zR HO311))) (Kd.R_lt (zR HO317))) (Kd.R_lt (zR HO323))) (below_size zb)); replace HO311 := Aside0.mk (Kd.R_elder' (zR HO311) (Kd.R_base ho0) hb); replace HO317 := Aside0.mk (Kd.R_elder' (zR HO317) (Kd.R_base ho0) hb); replace HO323 := Aside0.mk (Kd.R_elder' (zR HO323) (Kd.R_base ho0) hb); replace HB := (zB hb); (try clear hb); (try clear hb2); (try clear hk); (try clear hi); (try clear ho0); obtain ⟨Ao86, co86, eo86⟩ := Kd.R_slice HO323.out; subst eo86; obtain ⟨Ao87, co87, eo87⟩ := Kd.R_slice HO326.out; subst eo87) | ((with_reducible refine zG 21 rfl ?_); refine zg 22 Try.func21 ((relex_Common.calls k _ _ t321 _ _ t324 t327 t328 t329 _ ?side1 ?side2 ?side3 ?side4 A5.out).mono ?_); (case side1 => exact zE' (Kd.R_reads' HO323.out).2.2); (case side2 => exact (Kd.R_reads' HO323.out).2.1); (case side3 => exact zE' (Kd.R_reads' HO326.out).2.2); (case side4 => exact (Kd.R_reads' HO326.out).2.1); rintro e w88 ⟨rfl, hb⟩; refine ⟨_, rfl, ?_⟩; replace HO311 := (zRb HO311 hb); replace HO314 := (zRb HO314 hb); replace HO317 := (zRb HO317 hb); replace HO323 := (zRb HO323 hb); replace HO326 := (zRb HO326 hb); replace HB := (zB hb); (try clear hb); (try clear hb2); (try clear hk); (try clear hi)) | ((with_reducible refine zG 39 rfl ?_); refine zg 27 Try.func39 ((marginalialaw04_sample.calls k  t330 _ A6.out).mono ?_); rintro e w89 ⟨v331, rfl, ho0, hb⟩; refine ⟨_, rfl, ?_⟩; replace HO314 := (zRb HO314 hb); have HO332 := Aside0.mk (Kd.R_lower (Kd.R_new' (Kd.R_new' (Kd.R_new' (Kd.R_new' ho0 (Kd.R_lt (zR HO311))) (Kd.R_lt (zR HO317))) (Kd.R_lt (zR HO323))) (Kd.R_lt (zR HO326))) (below_size zb)); replace HO311 := Aside0.mk (Kd.R_elder' (zR HO311) (Kd.R_base ho0) hb); replace HO317 := Aside0.mk (Kd.R_elder' (zR HO317) (Kd.R_base ho0) hb); replace HO323 := Aside0.mk (Kd.R_elder' (zR HO323) (Kd.R_base ho0) hb); replace HO326 := Aside0.mk (Kd.R_elder' (zR HO326) (Kd.R_base ho0) hb); replace HB := (zB hb); (try clear hb); (try clear hb2); (try clear hk); (try clear hi); (try clear ho0)) | ((with_reducible refine zD 29 rfl ?_); refine Kd.R_lit k39 _ 39 ?hg (N := 29) ?hd (xs := ([(⟨2, 3, (⟨#[120, 10, 121]⟩ : ByteArray)⟩ : S39)] : List (S39))) (inner := [.int .i64 2, .int .i64 3, .string (⟨#[120, 10, 121]⟩ : ByteArray)]) (ok := fun _ => True) (okp := fun _ => True) ?hr ?hp (fun _ hk => hk) trivial (Below.refl _ _) (Nat.le_refl _) (by simp) ?_; (case hd => rfl); (case hg => rfl); (case hr => first | (go_simp; done) | (go_simp; rfl)); (case hp => exact (Reps.c3 (show Kd.M k39 _ _ _ (⟨2, 3, (⟨#[120, 10, 121]⟩ : ByteArray)⟩ : S39) [.int .i64 2, .int .i64 3, .string (⟨#[120, 10, 121]⟩ : ByteArray)] from (k39_mkM _ _ _ (⟨2, 3, (⟨#[120, 10, 121]⟩ : ByteArray)⟩ : S39) )) (Reps.none _ _))); intro v334 w90 ho91 hb hg_ hnew_; clear hg_ hnew_; (first | rw [← Ny333.out] at ho91 | (simp only [Int.reduceToNat] at ho91; rw [← Ny333.out] at ho91)); replace HO311 := (zRb HO311 hb); replace HO317 := (zRb HO317 hb); replace HO323 := (zRb HO323 hb); replace HO326 := (zRb HO326 hb); replace HO332 := (zRb HO332 hb); have HO335 := Aside0.mk (Kd.R_lower (Kd.R_new' ho91 (Kd.R_lt (zR HO314))) (below_size zb)); replace HO314 := Aside0.mk (Kd.R_elder' (zR HO314) (Kd.R_base ho91) hb); replace HB := (zB hb); clear hb ho91; obtain ⟨Ao92, co92, eo92⟩ := Kd.R_slice HO332.out; subst eo92; obtain ⟨Ao93, co93, eo93⟩ := Kd.R_slice HO335.out; subst eo93) | ((with_reducible refine zG 23 rfl ?_); refine zg 30 Try.func23 ((relex_Line.calls k _ _ t330 _ _ y333 t336 t337 _ ?side1 ?side2 ?side3 ?side4 A7.out).mono ?_); (case side1 => exact zE' (Kd.R_reads' HO332.out).2.2); (case side2 => exact (Kd.R_reads' HO332.out).2.1); (case side3 => exact zE' (Kd.R_reads' HO335.out).2.2); (case side4 => exact (Kd.R_reads' HO335.out).2.1); rintro e w94 ⟨rfl, hb⟩; refine ⟨_, rfl, ?_⟩; replace HO311 := (zRb HO311 hb); replace HO314 := (zRb HO314 hb); replace HO317 := (zRb HO317 hb); replace HO323 := (zRb HO323 hb); replace HO326 := (zRb HO326 hb); replace HO332 := (zRb HO332 hb); replace HO335 := (zRb HO335 hb); replace HB := (zB hb); (try clear hb); (try clear hb2); (try clear hk); (try clear hi)) | (go_at_call 15; (with_reducible refine (marginaliaref03_Lex.calls k (⟨#[97, 32, 120, 32, 121, 32, 99]⟩ : ByteArray) t338 _ A9.out).mono ?_); rintro e w95 ⟨v339, rfl, ho0, hb⟩; replace HO314 := (zRb HO314 hb); replace HO335 := (zRb HO335 hb); have HO340 := Aside0.mk (Kd.R_lower (Kd.R_new' (Kd.R_new' (Kd.R_new' (Kd.R_new' (Kd.R_new' ho0 (Kd.R_lt (zR HO311))) (Kd.R_lt (zR HO317))) (Kd.R_lt (zR HO323))) (Kd.R_lt (zR HO326))) (Kd.R_lt (zR HO332))) (below_size zb)); replace HO311 := Aside0.mk (Kd.R_elder' (zR HO311) (Kd.R_base ho0) hb); replace HO317 := Aside0.mk (Kd.R_elder' (zR HO317) (Kd.R_base ho0) hb); replace HO323 := Aside0.mk (Kd.R_elder' (zR HO323) (Kd.R_base ho0) hb); replace HO326 := Aside0.mk (Kd.R_elder' (zR HO326) (Kd.R_base ho0) hb); replace HO332 := Aside0.mk (Kd.R_elder' (zR HO332) (Kd.R_base ho0) hb); replace HB := (zB hb); (try clear hb); (try clear hb2); (try clear hk); (try clear hi); (try clear ho0); obtain ⟨Ao96, co96, eo96⟩ := Kd.R_slice HO317.out; subst eo96; obtain ⟨Ao97, co97, eo97⟩ := Kd.R_slice HO340.out; subst eo97) | (go_at_call 18; (with_reducible refine (marginaliaref03_Same.calls k _ _ t315 _ _ t338 true _ ?side1 ?side2 ?side3 ?side4 A10.out).mono ?_); (case side1 => exact zE' (Kd.R_reads' HO317.out).2.2); (case side2 => exact (Kd.R_reads' HO317.out).2.1); (case side3 => exact zE' (Kd.R_reads' HO340.out).2.2); (case side4 => exact (Kd.R_reads' HO340.out).2.1); rintro e w' ⟨rfl, ⟨nd, rfl⟩⟩))
       go_ret; exact ⟨zr, zb⟩
     ·rw [if_neg c14] at H; have c14b0 : (t329 == 0) = false := beq_eq_false_iff_ne.mpr c14; have c14b1 : (t329 != 0) = true := bne_iff_ne.mpr c14; obtain rfl := Option.some.inj H; go_enter Try.func14, Try.ntmps14
      go_wp2_with (first | ((with_reducible refine zG 39 rfl ?_); refine zg 11 Try.func39 ((marginalialaw04_sample.calls k  t309 _ A1.out).mono ?_); rintro e w98 ⟨v310, rfl, ho0, hb⟩; refine ⟨_, rfl, ?_⟩; have HO311 := Aside0.mk (Kd.R_lower ho0 (below_size zb)); replace HB := (zB hb); (try clear hb); (try clear hb2); (try clear hk); (try clear hi); (try clear ho0)) | ((with_reducible refine zD 13 rfl ?_); refine Kd.R_lit k39 _ 39 ?hg (N := 13) ?hd (xs := ([(⟨2, 3, (⟨#[120, 32, 121]⟩ : ByteArray)⟩ : S39)] : List (S39))) (inner := [.int .i64 2, .int .i64 3, .string (⟨#[120, 32, 121]⟩ : ByteArray)]) (ok := fun _ => True) (okp := fun _ => True) ?hr ?hp (fun _ hk => hk) trivial (Below.refl _ _) (Nat.le_refl _) (by simp) ?_; (case hd => rfl); (case hg => rfl); (case hr => first | (go_simp; done) | (go_simp; rfl)); (case hp => exact (Reps.c3 (show Kd.M k39 _ _ _ (⟨2, 3, (⟨#[120, 32, 121]⟩ : ByteArray)⟩ : S39) [.int .i64 2, .int .i64 3, .string (⟨#[120, 32, 121]⟩ : ByteArray)] from (k39_mkM _ _ _ (⟨2, 3, (⟨#[120, 32, 121]⟩ : ByteArray)⟩ : S39) )) (Reps.none _ _))); intro v313 w99 ho100 hb hg_ hnew_; clear hg_ hnew_; (first | rw [← Ny312.out] at ho100 | (simp only [Int.reduceToNat] at ho100; rw [← Ny312.out] at ho100)); replace HO311 := (zRb HO311 hb); have HO314 := Aside0.mk (Kd.R_lower ho100 (below_size zb)); replace HB := (zB hb); clear hb ho100; obtain ⟨Ao101, co101, eo101⟩ := Kd.R_slice HO311.out; subst eo101; obtain ⟨Ao102, co102, eo102⟩ := Kd.R_slice HO314.out; subst eo102) | ((with_reducible refine zG 12 rfl ?_); refine zg 14 Try.func12 ((relex_Relex.calls k (fun k_ => some k_ = (.slice Ao101 t309.length co101 : Value).ownBlock) _ _ t309 _ _ y312 t315 t318 t319 t320 _ ?side1 ?side2 ?side3 A2.out).mono ?_); (case side1 => exact Kd.R_V (Kd.R_tight rfl (Kd.R_apart' (HO311.out) (Kd.R_typed HO314.out) (by decide)))); (case side2 => exact zE' (Kd.R_reads' HO314.out).2.2); (case side3 => exact (Kd.R_reads' HO314.out).2.1); rintro e w103 ⟨v316, rfl, ho0, hb⟩; refine ⟨_, rfl, ?_⟩; replace HO314 := (zRb HO314 hb); have HO317 := Aside0.mk (Kd.R_lower (Kd.R_new' (Kd.R_mono (ok' := fun k_ => True) ho0 (fun _ hk_ => trivial)) (Kd.R_lt (zR HO311))) (below_size zb)); replace HO311 := Aside0.mk (Kd.R_elder' (zR HO311) (Kd.R_base ho0) hb); replace HB := (zB hb); (try clear hb); (try clear hb2); (try clear hk); (try clear hi); (try clear ho0)) | ((with_reducible refine zG 39 rfl ?_); refine zg 20 Try.func39 ((marginalialaw04_sample.calls k  t321 _ A3.out).mono ?_); rintro e w104 ⟨v322, rfl, ho0, hb⟩; refine ⟨_, rfl, ?_⟩; replace HO314 := (zRb HO314 hb); have HO323 := Aside0.mk (Kd.R_lower (Kd.R_new' (Kd.R_new' ho0 (Kd.R_lt (zR HO311))) (Kd.R_lt (zR HO317))) (below_size zb)); replace HO311 := Aside0.mk (Kd.R_elder' (zR HO311) (Kd.R_base ho0) hb); replace HO317 := Aside0.mk (Kd.R_elder' (zR HO317) (Kd.R_base ho0) hb); replace HB := (zB hb); (try clear hb); (try clear hb2); (try clear hk); (try clear hi); (try clear ho0)) | ((with_reducible refine zG 15 rfl ?_); refine zg 21 Try.func15 ((marginaliaref03_Lex.calls k (⟨#[97, 32, 100, 32, 99]⟩ : ByteArray) t324 _ A4.out).mono ?_); rintro e w105 ⟨v325, rfl, ho0, hb⟩; refine ⟨_, rfl, ?_⟩; replace HO314 := (zRb HO314 hb); have HO326 := Aside0.mk (Kd.R_lower (Kd.R_new' (Kd.R_new' (Kd.R_new' ho0 (Kd.R_lt (zR HO311))) (Kd.R_lt (zR HO317))) (Kd.R_lt (zR HO323))) (below_size zb)); replace HO311 := Aside0.mk (Kd.R_elder' (zR HO311) (Kd.R_base ho0) hb); replace HO317 := Aside0.mk (Kd.R_elder' (zR HO317) (Kd.R_base ho0) hb); replace HO323 := Aside0.mk (Kd.R_elder' (zR HO323) (Kd.R_base ho0) hb); replace HB := (zB hb); (try clear hb); (try clear hb2); (try clear hk); (try clear hi); (try clear ho0); obtain ⟨Ao106, co106, eo106⟩ := Kd.R_slice HO323.out; subst eo106; obtain ⟨Ao107, co107, eo107⟩ := Kd.R_slice HO326.out; subst eo107) | ((with_reducible refine zG 21 rfl ?_); refine zg 22 Try.func21 ((relex_Common.calls k _ _ t321 _ _ t324 t327 t328 t329 _ ?side1 ?side2 ?side3 ?side4 A5.out).mono ?_); (case side1 => exact zE' (Kd.R_reads' HO323.out).2.2); (case side2 => exact (Kd.R_reads' HO323.out).2.1); (case side3 => exact zE' (Kd.R_reads' HO326.out).2.2); (case side4 => exact (Kd.R_reads' HO326.out).2.1); rintro e w108 ⟨rfl, hb⟩; refine ⟨_, rfl, ?_⟩; replace HO311 := (zRb HO311 hb); replace HO314 := (zRb HO314 hb); replace HO317 := (zRb HO317 hb); replace HO323 := (zRb HO323 hb); replace HO326 := (zRb HO326 hb); replace HB := (zB hb); (try clear hb); (try clear hb2); (try clear hk); (try clear hi)) | ((with_reducible refine zG 39 rfl ?_); refine zg 27 Try.func39 ((marginalialaw04_sample.calls k  t330 _ A6.out).mono ?_); rintro e w109 ⟨v331, rfl, ho0, hb⟩; refine ⟨_, rfl, ?_⟩; replace HO314 := (zRb HO314 hb); have HO332 := Aside0.mk (Kd.R_lower (Kd.R_new' (Kd.R_new' (Kd.R_new' (Kd.R_new' ho0 (Kd.R_lt (zR HO311))) (Kd.R_lt (zR HO317))) (Kd.R_lt (zR HO323))) (Kd.R_lt (zR HO326))) (below_size zb)); replace HO311 := Aside0.mk (Kd.R_elder' (zR HO311) (Kd.R_base ho0) hb); replace HO317 := Aside0.mk (Kd.R_elder' (zR HO317) (Kd.R_base ho0) hb); replace HO323 := Aside0.mk (Kd.R_elder' (zR HO323) (Kd.R_base ho0) hb); replace HO326 := Aside0.mk (Kd.R_elder' (zR HO326) (Kd.R_base ho0) hb); replace HB := (zB hb); (try clear hb); (try clear hb2); (try clear hk); (try clear hi); (try clear ho0)) | ((with_reducible refine zD 29 rfl ?_); refine Kd.R_lit k39 _ 39 ?hg (N := 29) ?hd (xs := ([(⟨2, 3, (⟨#[120, 10, 121]⟩ : ByteArray)⟩ : S39)] : List (S39))) (inner := [.int .i64 2, .int .i64 3, .string (⟨#[120, 10, 121]⟩ : ByteArray)]) (ok := fun _ => True) (okp := fun _ => True) ?hr ?hp (fun _ hk => hk) trivial (Below.refl _ _) (Nat.le_refl _) (by simp) ?_; (case hd => rfl); (case hg => rfl); (case hr => first | (go_simp; done) | (go_simp; rfl)); (case hp => exact (Reps.c3 (show Kd.M k39 _ _ _ (⟨2, 3, (⟨#[120, 10, 121]⟩ : ByteArray)⟩ : S39) [.int .i64 2, .int .i64 3, .string (⟨#[120, 10, 121]⟩ : ByteArray)] from (k39_mkM _ _ _ (⟨2, 3, (⟨#[120, 10, 121]⟩ : ByteArray)⟩ : S39) )) (Reps.none _ _))); intro v334 w110 ho111 hb hg_ hnew_; clear hg_ hnew_; (first | rw [← Ny333.out] at ho111 | (simp only [Int.reduceToNat] at ho111; rw [← Ny333.out] at ho111)); replace HO311 := (zRb HO311 hb); replace HO317 := (zRb HO317 hb); replace HO323 := (zRb HO323 hb); replace HO326 := (zRb HO326 hb); replace HO332 := (zRb HO332 hb); have HO335 := Aside0.mk (Kd.R_lower (Kd.R_new' ho111 (Kd.R_lt (zR HO314))) (below_size zb)); replace HO314 := Aside0.mk (Kd.R_elder' (zR HO314) (Kd.R_base ho111) hb); replace HB := (zB hb); clear hb ho111; obtain ⟨Ao112, co112, eo112⟩ := Kd.R_slice HO332.out; subst eo112; obtain ⟨Ao113, co113, eo113⟩ := Kd.R_slice HO335.out; subst eo113) | ((with_reducible refine zG 23 rfl ?_); refine zg 30 Try.func23 ((relex_Line.calls k _ _ t330 _ _ y333 t336 t337 _ ?side1 ?side2 ?side3 ?side4 A7.out).mono ?_); (case side1 => exact zE' (Kd.R_reads' HO332.out).2.2); (case side2 => exact (Kd.R_reads' HO332.out).2.1); (case side3 => exact zE' (Kd.R_reads' HO335.out).2.2); (case side4 => exact (Kd.R_reads' HO335.out).2.1); rintro e w114 ⟨rfl, hb⟩; refine ⟨_, rfl, ?_⟩; replace HO311 := (zRb HO311 hb); replace HO314 := (zRb HO314 hb); replace HO317 := (zRb HO317 hb); replace HO323 := (zRb HO323 hb); replace HO326 := (zRb HO326 hb); replace HO332 := (zRb HO332 hb); replace HO335 := (zRb HO335 hb); replace HB := (zB hb); (try clear hb); (try clear hb2); (try clear hk); (try clear hi)) | (go_at_call 15; (with_reducible refine (marginaliaref03_Lex.calls k (⟨#[97, 32, 120, 32, 121, 32, 99]⟩ : ByteArray) t338 _ A9.out).mono ?_); rintro e w115 ⟨v339, rfl, ho0, hb⟩; replace HO314 := (zRb HO314 hb); replace HO335 := (zRb HO335 hb); have HO340 := Aside0.mk (Kd.R_lower (Kd.R_new' (Kd.R_new' (Kd.R_new' (Kd.R_new' (Kd.R_new' ho0 (Kd.R_lt (zR HO311))) (Kd.R_lt (zR HO317))) (Kd.R_lt (zR HO323))) (Kd.R_lt (zR HO326))) (Kd.R_lt (zR HO332))) (below_size zb)); replace HO311 := Aside0.mk (Kd.R_elder' (zR HO311) (Kd.R_base ho0) hb); replace HO317 := Aside0.mk (Kd.R_elder' (zR HO317) (Kd.R_base ho0) hb); replace HO323 := Aside0.mk (Kd.R_elder' (zR HO323) (Kd.R_base ho0) hb); replace HO326 := Aside0.mk (Kd.R_elder' (zR HO326) (Kd.R_base ho0) hb); replace HO332 := Aside0.mk (Kd.R_elder' (zR HO332) (Kd.R_base ho0) hb); replace HB := (zB hb); (try clear hb); (try clear hb2); (try clear hk); (try clear hi); (try clear ho0); obtain ⟨Ao116, co116, eo116⟩ := Kd.R_slice HO317.out; subst eo116; obtain ⟨Ao117, co117, eo117⟩ := Kd.R_slice HO340.out; subst eo117) | (go_at_call 18; (with_reducible refine (marginaliaref03_Same.calls k _ _ t315 _ _ t338 true _ ?side1 ?side2 ?side3 ?side4 A10.out).mono ?_); (case side1 => exact zE' (Kd.R_reads' HO317.out).2.2); (case side2 => exact (Kd.R_reads' HO317.out).2.1); (case side3 => exact zE' (Kd.R_reads' HO340.out).2.2); (case side4 => exact (Kd.R_reads' HO340.out).2.1); rintro e w' ⟨rfl, ⟨nd, rfl⟩⟩))
      go_ret; exact ⟨zr, zb⟩
    ·rw [if_neg c13] at H; have c13b0 := decide_eq_false c13; clear c13; obtain rfl := Option.some.inj H; go_enter Try.func14, Try.ntmps14
     go_wp2_with (first | ((with_reducible refine zG 39 rfl ?_); refine zg 11 Try.func39 ((marginalialaw04_sample.calls k  t309 _ A1.out).mono ?_); rintro e w118 ⟨v310, rfl, ho0, hb⟩; refine ⟨_, rfl, ?_⟩; have HO311 := Aside0.mk (Kd.R_lower ho0 (below_size zb)); replace HB := (zB hb); (try clear hb); (try clear hb2); (try clear hk); (try clear hi); (try clear ho0)) | ((with_reducible refine zD 13 rfl ?_); refine Kd.R_lit k39 _ 39 ?hg (N := 13) ?hd (xs := ([(⟨2, 3, (⟨#[120, 32, 121]⟩ : ByteArray)⟩ : S39)] : List (S39))) (inner := [.int .i64 2, .int .i64 3, .string (⟨#[120, 32, 121]⟩ : ByteArray)]) (ok := fun _ => True) (okp := fun _ => True) ?hr ?hp (fun _ hk => hk) trivial (Below.refl _ _) (Nat.le_refl _) (by simp) ?_; (case hd => rfl); (case hg => rfl); (case hr => first | (go_simp; done) | (go_simp; rfl)); (case hp => exact (Reps.c3 (show Kd.M k39 _ _ _ (⟨2, 3, (⟨#[120, 32, 121]⟩ : ByteArray)⟩ : S39) [.int .i64 2, .int .i64 3, .string (⟨#[120, 32, 121]⟩ : ByteArray)] from (k39_mkM _ _ _ (⟨2, 3, (⟨#[120, 32, 121]⟩ : ByteArray)⟩ : S39) )) (Reps.none _ _))); intro v313 w119 ho120 hb hg_ hnew_; clear hg_ hnew_; (first | rw [← Ny312.out] at ho120 | (simp only [Int.reduceToNat] at ho120; rw [← Ny312.out] at ho120)); replace HO311 := (zRb HO311 hb); have HO314 := Aside0.mk (Kd.R_lower ho120 (below_size zb)); replace HB := (zB hb); clear hb ho120; obtain ⟨Ao121, co121, eo121⟩ := Kd.R_slice HO311.out; subst eo121; obtain ⟨Ao122, co122, eo122⟩ := Kd.R_slice HO314.out; subst eo122) | ((with_reducible refine zG 12 rfl ?_); refine zg 14 Try.func12 ((relex_Relex.calls k (fun k_ => some k_ = (.slice Ao121 t309.length co121 : Value).ownBlock) _ _ t309 _ _ y312 t315 t318 t319 t320 _ ?side1 ?side2 ?side3 A2.out).mono ?_); (case side1 => exact Kd.R_V (Kd.R_tight rfl (Kd.R_apart' (HO311.out) (Kd.R_typed HO314.out) (by decide)))); (case side2 => exact zE' (Kd.R_reads' HO314.out).2.2); (case side3 => exact (Kd.R_reads' HO314.out).2.1); rintro e w123 ⟨v316, rfl, ho0, hb⟩; refine ⟨_, rfl, ?_⟩; replace HO314 := (zRb HO314 hb); have HO317 := Aside0.mk (Kd.R_lower (Kd.R_new' (Kd.R_mono (ok' := fun k_ => True) ho0 (fun _ hk_ => trivial)) (Kd.R_lt (zR HO311))) (below_size zb)); replace HO311 := Aside0.mk (Kd.R_elder' (zR HO311) (Kd.R_base ho0) hb); replace HB := (zB hb); (try clear hb); (try clear hb2); (try clear hk); (try clear hi); (try clear ho0)) | ((with_reducible refine zG 39 rfl ?_); refine zg 20 Try.func39 ((marginalialaw04_sample.calls k  t321 _ A3.out).mono ?_); rintro e w124 ⟨v322, rfl, ho0, hb⟩; refine ⟨_, rfl, ?_⟩; replace HO314 := (zRb HO314 hb); have HO323 := Aside0.mk (Kd.R_lower (Kd.R_new' (Kd.R_new' ho0 (Kd.R_lt (zR HO311))) (Kd.R_lt (zR HO317))) (below_size zb)); replace HO311 := Aside0.mk (Kd.R_elder' (zR HO311) (Kd.R_base ho0) hb); replace HO317 := Aside0.mk (Kd.R_elder' (zR HO317) (Kd.R_base ho0) hb); replace HB := (zB hb); (try clear hb); (try clear hb2); (try clear hk); (try clear hi); (try clear ho0)) | ((with_reducible refine zG 15 rfl ?_); refine zg 21 Try.func15 ((marginaliaref03_Lex.calls k (⟨#[97, 32, 100, 32, 99]⟩ : ByteArray) t324 _ A4.out).mono ?_); rintro e w125 ⟨v325, rfl, ho0, hb⟩; refine ⟨_, rfl, ?_⟩; replace HO314 := (zRb HO314 hb); have HO326 := Aside0.mk (Kd.R_lower (Kd.R_new' (Kd.R_new' (Kd.R_new' ho0 (Kd.R_lt (zR HO311))) (Kd.R_lt (zR HO317))) (Kd.R_lt (zR HO323))) (below_size zb)); replace HO311 := Aside0.mk (Kd.R_elder' (zR HO311) (Kd.R_base ho0) hb); replace HO317 := Aside0.mk (Kd.R_elder' (zR HO317) (Kd.R_base ho0) hb); replace HO323 := Aside0.mk (Kd.R_elder' (zR HO323) (Kd.R_base ho0) hb); replace HB := (zB hb); (try clear hb); (try clear hb2); (try clear hk); (try clear hi); (try clear ho0); obtain ⟨Ao126, co126, eo126⟩ := Kd.R_slice HO323.out; subst eo126; obtain ⟨Ao127, co127, eo127⟩ := Kd.R_slice HO326.out; subst eo127) | ((with_reducible refine zG 21 rfl ?_); refine zg 22 Try.func21 ((relex_Common.calls k _ _ t321 _ _ t324 t327 t328 t329 _ ?side1 ?side2 ?side3 ?side4 A5.out).mono ?_); (case side1 => exact zE' (Kd.R_reads' HO323.out).2.2); (case side2 => exact (Kd.R_reads' HO323.out).2.1); (case side3 => exact zE' (Kd.R_reads' HO326.out).2.2); (case side4 => exact (Kd.R_reads' HO326.out).2.1); rintro e w128 ⟨rfl, hb⟩; refine ⟨_, rfl, ?_⟩; replace HO311 := (zRb HO311 hb); replace HO314 := (zRb HO314 hb); replace HO317 := (zRb HO317 hb); replace HO323 := (zRb HO323 hb); replace HO326 := (zRb HO326 hb); replace HB := (zB hb); (try clear hb); (try clear hb2); (try clear hk); (try clear hi)) | ((with_reducible refine zG 39 rfl ?_); refine zg 27 Try.func39 ((marginalialaw04_sample.calls k  t330 _ A6.out).mono ?_); rintro e w129 ⟨v331, rfl, ho0, hb⟩; refine ⟨_, rfl, ?_⟩; replace HO314 := (zRb HO314 hb); have HO332 := Aside0.mk (Kd.R_lower (Kd.R_new' (Kd.R_new' (Kd.R_new' (Kd.R_new' ho0 (Kd.R_lt (zR HO311))) (Kd.R_lt (zR HO317))) (Kd.R_lt (zR HO323))) (Kd.R_lt (zR HO326))) (below_size zb)); replace HO311 := Aside0.mk (Kd.R_elder' (zR HO311) (Kd.R_base ho0) hb); replace HO317 := Aside0.mk (Kd.R_elder' (zR HO317) (Kd.R_base ho0) hb); replace HO323 := Aside0.mk (Kd.R_elder' (zR HO323) (Kd.R_base ho0) hb); replace HO326 := Aside0.mk (Kd.R_elder' (zR HO326) (Kd.R_base ho0) hb); replace HB := (zB hb); (try clear hb); (try clear hb2); (try clear hk); (try clear hi); (try clear ho0)) | ((with_reducible refine zD 29 rfl ?_); refine Kd.R_lit k39 _ 39 ?hg (N := 29) ?hd (xs := ([(⟨2, 3, (⟨#[120, 10, 121]⟩ : ByteArray)⟩ : S39)] : List (S39))) (inner := [.int .i64 2, .int .i64 3, .string (⟨#[120, 10, 121]⟩ : ByteArray)]) (ok := fun _ => True) (okp := fun _ => True) ?hr ?hp (fun _ hk => hk) trivial (Below.refl _ _) (Nat.le_refl _) (by simp) ?_; (case hd => rfl); (case hg => rfl); (case hr => first | (go_simp; done) | (go_simp; rfl)); (case hp => exact (Reps.c3 (show Kd.M k39 _ _ _ (⟨2, 3, (⟨#[120, 10, 121]⟩ : ByteArray)⟩ : S39) [.int .i64 2, .int .i64 3, .string (⟨#[120, 10, 121]⟩ : ByteArray)] from (k39_mkM _ _ _ (⟨2, 3, (⟨#[120, 10, 121]⟩ : ByteArray)⟩ : S39) )) (Reps.none _ _))); intro v334 w130 ho131 hb hg_ hnew_; clear hg_ hnew_; (first | rw [← Ny333.out] at ho131 | (simp only [Int.reduceToNat] at ho131; rw [← Ny333.out] at ho131)); replace HO311 := (zRb HO311 hb); replace HO317 := (zRb HO317 hb); replace HO323 := (zRb HO323 hb); replace HO326 := (zRb HO326 hb); replace HO332 := (zRb HO332 hb); have HO335 := Aside0.mk (Kd.R_lower (Kd.R_new' ho131 (Kd.R_lt (zR HO314))) (below_size zb)); replace HO314 := Aside0.mk (Kd.R_elder' (zR HO314) (Kd.R_base ho131) hb); replace HB := (zB hb); clear hb ho131; obtain ⟨Ao132, co132, eo132⟩ := Kd.R_slice HO332.out; subst eo132; obtain ⟨Ao133, co133, eo133⟩ := Kd.R_slice HO335.out; subst eo133) | ((with_reducible refine zG 23 rfl ?_); refine zg 30 Try.func23 ((relex_Line.calls k _ _ t330 _ _ y333 t336 t337 _ ?side1 ?side2 ?side3 ?side4 A7.out).mono ?_); (case side1 => exact zE' (Kd.R_reads' HO332.out).2.2); (case side2 => exact (Kd.R_reads' HO332.out).2.1); (case side3 => exact zE' (Kd.R_reads' HO335.out).2.2); (case side4 => exact (Kd.R_reads' HO335.out).2.1); rintro e w134 ⟨rfl, hb⟩; refine ⟨_, rfl, ?_⟩; replace HO311 := (zRb HO311 hb); replace HO314 := (zRb HO314 hb); replace HO317 := (zRb HO317 hb); replace HO323 := (zRb HO323 hb); replace HO326 := (zRb HO326 hb); replace HO332 := (zRb HO332 hb); replace HO335 := (zRb HO335 hb); replace HB := (zB hb); (try clear hb); (try clear hb2); (try clear hk); (try clear hi)) | (go_at_call 15; (with_reducible refine (marginaliaref03_Lex.calls k (⟨#[97, 32, 120, 32, 121, 32, 99]⟩ : ByteArray) t338 _ A9.out).mono ?_); rintro e w135 ⟨v339, rfl, ho0, hb⟩; replace HO314 := (zRb HO314 hb); replace HO335 := (zRb HO335 hb); have HO340 := Aside0.mk (Kd.R_lower (Kd.R_new' (Kd.R_new' (Kd.R_new' (Kd.R_new' (Kd.R_new' ho0 (Kd.R_lt (zR HO311))) (Kd.R_lt (zR HO317))) (Kd.R_lt (zR HO323))) (Kd.R_lt (zR HO326))) (Kd.R_lt (zR HO332))) (below_size zb)); replace HO311 := Aside0.mk (Kd.R_elder' (zR HO311) (Kd.R_base ho0) hb); replace HO317 := Aside0.mk (Kd.R_elder' (zR HO317) (Kd.R_base ho0) hb); replace HO323 := Aside0.mk (Kd.R_elder' (zR HO323) (Kd.R_base ho0) hb); replace HO326 := Aside0.mk (Kd.R_elder' (zR HO326) (Kd.R_base ho0) hb); replace HO332 := Aside0.mk (Kd.R_elder' (zR HO332) (Kd.R_base ho0) hb); replace HB := (zB hb); (try clear hb); (try clear hb2); (try clear hk); (try clear hi); (try clear ho0); obtain ⟨Ao136, co136, eo136⟩ := Kd.R_slice HO317.out; subst eo136; obtain ⟨Ao137, co137, eo137⟩ := Kd.R_slice HO340.out; subst eo137) | (go_at_call 18; (with_reducible refine (marginaliaref03_Same.calls k _ _ t315 _ _ t338 true _ ?side1 ?side2 ?side3 ?side4 A10.out).mono ?_); (case side1 => exact zE' (Kd.R_reads' HO317.out).2.2); (case side2 => exact (Kd.R_reads' HO317.out).2.1); (case side3 => exact zE' (Kd.R_reads' HO340.out).2.2); (case side4 => exact (Kd.R_reads' HO340.out).2.1); rintro e w' ⟨rfl, ⟨nd, rfl⟩⟩))
     go_ret; exact ⟨zr, zb⟩
   ·rw [if_neg c12] at H; have c12b0 := decide_eq_false c12; clear c12; obtain rfl := Option.some.inj H; go_enter Try.func14, Try.ntmps14
    go_wp2_with (first | ((with_reducible refine zG 39 rfl ?_); refine zg 11 Try.func39 ((marginalialaw04_sample.calls k  t309 _ A1.out).mono ?_); rintro e w138 ⟨v310, rfl, ho0, hb⟩; refine ⟨_, rfl, ?_⟩; have HO311 := Aside0.mk (Kd.R_lower ho0 (below_size zb)); replace HB := (zB hb); (try clear hb); (try clear hb2); (try clear hk); (try clear hi); (try clear ho0)) | ((with_reducible refine zD 13 rfl ?_); refine Kd.R_lit k39 _ 39 ?hg (N := 13) ?hd (xs := ([(⟨2, 3, (⟨#[120, 32, 121]⟩ : ByteArray)⟩ : S39)] : List (S39))) (inner := [.int .i64 2, .int .i64 3, .string (⟨#[120, 32, 121]⟩ : ByteArray)]) (ok := fun _ => True) (okp := fun _ => True) ?hr ?hp (fun _ hk => hk) trivial (Below.refl _ _) (Nat.le_refl _) (by simp) ?_; (case hd => rfl); (case hg => rfl); (case hr => first | (go_simp; done) | (go_simp; rfl)); (case hp => exact (Reps.c3 (show Kd.M k39 _ _ _ (⟨2, 3, (⟨#[120, 32, 121]⟩ : ByteArray)⟩ : S39) [.int .i64 2, .int .i64 3, .string (⟨#[120, 32, 121]⟩ : ByteArray)] from (k39_mkM _ _ _ (⟨2, 3, (⟨#[120, 32, 121]⟩ : ByteArray)⟩ : S39) )) (Reps.none _ _))); intro v313 w139 ho140 hb hg_ hnew_; clear hg_ hnew_; (first | rw [← Ny312.out] at ho140 | (simp only [Int.reduceToNat] at ho140; rw [← Ny312.out] at ho140)); replace HO311 := (zRb HO311 hb); have HO314 := Aside0.mk (Kd.R_lower ho140 (below_size zb)); replace HB := (zB hb); clear hb ho140; obtain ⟨Ao141, co141, eo141⟩ := Kd.R_slice HO311.out; subst eo141; obtain ⟨Ao142, co142, eo142⟩ := Kd.R_slice HO314.out; subst eo142) | ((with_reducible refine zG 12 rfl ?_); refine zg 14 Try.func12 ((relex_Relex.calls k (fun k_ => some k_ = (.slice Ao141 t309.length co141 : Value).ownBlock) _ _ t309 _ _ y312 t315 t318 t319 t320 _ ?side1 ?side2 ?side3 A2.out).mono ?_); (case side1 => exact Kd.R_V (Kd.R_tight rfl (Kd.R_apart' (HO311.out) (Kd.R_typed HO314.out) (by decide)))); (case side2 => exact zE' (Kd.R_reads' HO314.out).2.2); (case side3 => exact (Kd.R_reads' HO314.out).2.1); rintro e w143 ⟨v316, rfl, ho0, hb⟩; refine ⟨_, rfl, ?_⟩; replace HO314 := (zRb HO314 hb); have HO317 := Aside0.mk (Kd.R_lower (Kd.R_new' (Kd.R_mono (ok' := fun k_ => True) ho0 (fun _ hk_ => trivial)) (Kd.R_lt (zR HO311))) (below_size zb)); replace HO311 := Aside0.mk (Kd.R_elder' (zR HO311) (Kd.R_base ho0) hb); replace HB := (zB hb); (try clear hb); (try clear hb2); (try clear hk); (try clear hi); (try clear ho0)) | ((with_reducible refine zG 39 rfl ?_); refine zg 20 Try.func39 ((marginalialaw04_sample.calls k  t321 _ A3.out).mono ?_); rintro e w144 ⟨v322, rfl, ho0, hb⟩; refine ⟨_, rfl, ?_⟩; replace HO314 := (zRb HO314 hb); have HO323 := Aside0.mk (Kd.R_lower (Kd.R_new' (Kd.R_new' ho0 (Kd.R_lt (zR HO311))) (Kd.R_lt (zR HO317))) (below_size zb)); replace HO311 := Aside0.mk (Kd.R_elder' (zR HO311) (Kd.R_base ho0) hb); replace HO317 := Aside0.mk (Kd.R_elder' (zR HO317) (Kd.R_base ho0) hb); replace HB := (zB hb); (try clear hb); (try clear hb2); (try clear hk); (try clear hi); (try clear ho0)) | ((with_reducible refine zG 15 rfl ?_); refine zg 21 Try.func15 ((marginaliaref03_Lex.calls k (⟨#[97, 32, 100, 32, 99]⟩ : ByteArray) t324 _ A4.out).mono ?_); rintro e w145 ⟨v325, rfl, ho0, hb⟩; refine ⟨_, rfl, ?_⟩; replace HO314 := (zRb HO314 hb); have HO326 := Aside0.mk (Kd.R_lower (Kd.R_new' (Kd.R_new' (Kd.R_new' ho0 (Kd.R_lt (zR HO311))) (Kd.R_lt (zR HO317))) (Kd.R_lt (zR HO323))) (below_size zb)); replace HO311 := Aside0.mk (Kd.R_elder' (zR HO311) (Kd.R_base ho0) hb); replace HO317 := Aside0.mk (Kd.R_elder' (zR HO317) (Kd.R_base ho0) hb); replace HO323 := Aside0.mk (Kd.R_elder' (zR HO323) (Kd.R_base ho0) hb); replace HB := (zB hb); (try clear hb); (try clear hb2); (try clear hk); (try clear hi); (try clear ho0); obtain ⟨Ao146, co146, eo146⟩ := Kd.R_slice HO323.out; subst eo146; obtain ⟨Ao147, co147, eo147⟩ := Kd.R_slice HO326.out; subst eo147) | ((with_reducible refine zG 21 rfl ?_); refine zg 22 Try.func21 ((relex_Common.calls k _ _ t321 _ _ t324 t327 t328 t329 _ ?side1 ?side2 ?side3 ?side4 A5.out).mono ?_); (case side1 => exact zE' (Kd.R_reads' HO323.out).2.2); (case side2 => exact (Kd.R_reads' HO323.out).2.1); (case side3 => exact zE' (Kd.R_reads' HO326.out).2.2); (case side4 => exact (Kd.R_reads' HO326.out).2.1); rintro e w148 ⟨rfl, hb⟩; refine ⟨_, rfl, ?_⟩; replace HO311 := (zRb HO311 hb); replace HO314 := (zRb HO314 hb); replace HO317 := (zRb HO317 hb); replace HO323 := (zRb HO323 hb); replace HO326 := (zRb HO326 hb); replace HB := (zB hb); (try clear hb); (try clear hb2); (try clear hk); (try clear hi)) | ((with_reducible refine zG 39 rfl ?_); refine zg 27 Try.func39 ((marginalialaw04_sample.calls k  t330 _ A6.out).mono ?_); rintro e w149 ⟨v331, rfl, ho0, hb⟩; refine ⟨_, rfl, ?_⟩; replace HO314 := (zRb HO314 hb); have HO332 := Aside0.mk (Kd.R_lower (Kd.R_new' (Kd.R_new' (Kd.R_new' (Kd.R_new' ho0 (Kd.R_lt (zR HO311))) (Kd.R_lt (zR HO317))) (Kd.R_lt (zR HO323))) (Kd.R_lt (zR HO326))) (below_size zb)); replace HO311 := Aside0.mk (Kd.R_elder' (zR HO311) (Kd.R_base ho0) hb); replace HO317 := Aside0.mk (Kd.R_elder' (zR HO317) (Kd.R_base ho0) hb); replace HO323 := Aside0.mk (Kd.R_elder' (zR HO323) (Kd.R_base ho0) hb); replace HO326 := Aside0.mk (Kd.R_elder' (zR HO326) (Kd.R_base ho0) hb); replace HB := (zB hb); (try clear hb); (try clear hb2); (try clear hk); (try clear hi); (try clear ho0)) | ((with_reducible refine zD 29 rfl ?_); refine Kd.R_lit k39 _ 39 ?hg (N := 29) ?hd (xs := ([(⟨2, 3, (⟨#[120, 10, 121]⟩ : ByteArray)⟩ : S39)] : List (S39))) (inner := [.int .i64 2, .int .i64 3, .string (⟨#[120, 10, 121]⟩ : ByteArray)]) (ok := fun _ => True) (okp := fun _ => True) ?hr ?hp (fun _ hk => hk) trivial (Below.refl _ _) (Nat.le_refl _) (by simp) ?_; (case hd => rfl); (case hg => rfl); (case hr => first | (go_simp; done) | (go_simp; rfl)); (case hp => exact (Reps.c3 (show Kd.M k39 _ _ _ (⟨2, 3, (⟨#[120, 10, 121]⟩ : ByteArray)⟩ : S39) [.int .i64 2, .int .i64 3, .string (⟨#[120, 10, 121]⟩ : ByteArray)] from (k39_mkM _ _ _ (⟨2, 3, (⟨#[120, 10, 121]⟩ : ByteArray)⟩ : S39) )) (Reps.none _ _))); intro v334 w150 ho151 hb hg_ hnew_; clear hg_ hnew_; (first | rw [← Ny333.out] at ho151 | (simp only [Int.reduceToNat] at ho151; rw [← Ny333.out] at ho151)); replace HO311 := (zRb HO311 hb); replace HO317 := (zRb HO317 hb); replace HO323 := (zRb HO323 hb); replace HO326 := (zRb HO326 hb); replace HO332 := (zRb HO332 hb); have HO335 := Aside0.mk (Kd.R_lower (Kd.R_new' ho151 (Kd.R_lt (zR HO314))) (below_size zb)); replace HO314 := Aside0.mk (Kd.R_elder' (zR HO314) (Kd.R_base ho151) hb); replace HB := (zB hb); clear hb ho151; obtain ⟨Ao152, co152, eo152⟩ := Kd.R_slice HO332.out; subst eo152; obtain ⟨Ao153, co153, eo153⟩ := Kd.R_slice HO335.out; subst eo153) | ((with_reducible refine zG 23 rfl ?_); refine zg 30 Try.func23 ((relex_Line.calls k _ _ t330 _ _ y333 t336 t337 _ ?side1 ?side2 ?side3 ?side4 A7.out).mono ?_); (case side1 => exact zE' (Kd.R_reads' HO332.out).2.2); (case side2 => exact (Kd.R_reads' HO332.out).2.1); (case side3 => exact zE' (Kd.R_reads' HO335.out).2.2); (case side4 => exact (Kd.R_reads' HO335.out).2.1); rintro e w154 ⟨rfl, hb⟩; refine ⟨_, rfl, ?_⟩; replace HO311 := (zRb HO311 hb); replace HO314 := (zRb HO314 hb); replace HO317 := (zRb HO317 hb); replace HO323 := (zRb HO323 hb); replace HO326 := (zRb HO326 hb); replace HO332 := (zRb HO332 hb); replace HO335 := (zRb HO335 hb); replace HB := (zB hb); (try clear hb); (try clear hb2); (try clear hk); (try clear hi)) | (go_at_call 15; (with_reducible refine (marginaliaref03_Lex.calls k (⟨#[97, 32, 120, 32, 121, 32, 99]⟩ : ByteArray) t338 _ A9.out).mono ?_); rintro e w155 ⟨v339, rfl, ho0, hb⟩; replace HO314 := (zRb HO314 hb); replace HO335 := (zRb HO335 hb); have HO340 := Aside0.mk (Kd.R_lower (Kd.R_new' (Kd.R_new' (Kd.R_new' (Kd.R_new' (Kd.R_new' ho0 (Kd.R_lt (zR HO311))) (Kd.R_lt (zR HO317))) (Kd.R_lt (zR HO323))) (Kd.R_lt (zR HO326))) (Kd.R_lt (zR HO332))) (below_size zb)); replace HO311 := Aside0.mk (Kd.R_elder' (zR HO311) (Kd.R_base ho0) hb); replace HO317 := Aside0.mk (Kd.R_elder' (zR HO317) (Kd.R_base ho0) hb); replace HO323 := Aside0.mk (Kd.R_elder' (zR HO323) (Kd.R_base ho0) hb); replace HO326 := Aside0.mk (Kd.R_elder' (zR HO326) (Kd.R_base ho0) hb); replace HO332 := Aside0.mk (Kd.R_elder' (zR HO332) (Kd.R_base ho0) hb); replace HB := (zB hb); (try clear hb); (try clear hb2); (try clear hk); (try clear hi); (try clear ho0); obtain ⟨Ao156, co156, eo156⟩ := Kd.R_slice HO317.out; subst eo156; obtain ⟨Ao157, co157, eo157⟩ := Kd.R_slice HO340.out; subst eo157) | (go_at_call 18; (with_reducible refine (marginaliaref03_Same.calls k _ _ t315 _ _ t338 true _ ?side1 ?side2 ?side3 ?side4 A10.out).mono ?_); (case side1 => exact zE' (Kd.R_reads' HO317.out).2.2); (case side2 => exact (Kd.R_reads' HO317.out).2.1); (case side3 => exact zE' (Kd.R_reads' HO340.out).2.2); (case side4 => exact (Kd.R_reads' HO340.out).2.1); rintro e w' ⟨rfl, ⟨nd, rfl⟩⟩))
    go_ret; exact ⟨zr, zb⟩
  ·replace c11 := Bool.eq_false_iff.mpr c11; subst c11; replace H := zf H; obtain rfl := Option.some.inj H; go_enter Try.func14, Try.ntmps14
   go_wp2_with (first | ((with_reducible refine zG 39 rfl ?_); refine zg 11 Try.func39 ((marginalialaw04_sample.calls k  t309 _ A1.out).mono ?_); rintro e w158 ⟨v310, rfl, ho0, hb⟩; refine ⟨_, rfl, ?_⟩; have HO311 := Aside0.mk (Kd.R_lower ho0 (below_size zb)); replace HB := (zB hb); (try clear hb); (try clear hb2); (try clear hk); (try clear hi); (try clear ho0)) | ((with_reducible refine zD 13 rfl ?_); refine Kd.R_lit k39 _ 39 ?hg (N := 13) ?hd (xs := ([(⟨2, 3, (⟨#[120, 32, 121]⟩ : ByteArray)⟩ : S39)] : List (S39))) (inner := [.int .i64 2, .int .i64 3, .string (⟨#[120, 32, 121]⟩ : ByteArray)]) (ok := fun _ => True) (okp := fun _ => True) ?hr ?hp (fun _ hk => hk) trivial (Below.refl _ _) (Nat.le_refl _) (by simp) ?_; (case hd => rfl); (case hg => rfl); (case hr => first | (go_simp; done) | (go_simp; rfl)); (case hp => exact (Reps.c3 (show Kd.M k39 _ _ _ (⟨2, 3, (⟨#[120, 32, 121]⟩ : ByteArray)⟩ : S39) [.int .i64 2, .int .i64 3, .string (⟨#[120, 32, 121]⟩ : ByteArray)] from (k39_mkM _ _ _ (⟨2, 3, (⟨#[120, 32, 121]⟩ : ByteArray)⟩ : S39) )) (Reps.none _ _))); intro v313 w159 ho160 hb hg_ hnew_; clear hg_ hnew_; (first | rw [← Ny312.out] at ho160 | (simp only [Int.reduceToNat] at ho160; rw [← Ny312.out] at ho160)); replace HO311 := (zRb HO311 hb); have HO314 := Aside0.mk (Kd.R_lower ho160 (below_size zb)); replace HB := (zB hb); clear hb ho160; obtain ⟨Ao161, co161, eo161⟩ := Kd.R_slice HO311.out; subst eo161; obtain ⟨Ao162, co162, eo162⟩ := Kd.R_slice HO314.out; subst eo162) | ((with_reducible refine zG 12 rfl ?_); refine zg 14 Try.func12 ((relex_Relex.calls k (fun k_ => some k_ = (.slice Ao161 t309.length co161 : Value).ownBlock) _ _ t309 _ _ y312 t315 t318 t319 t320 _ ?side1 ?side2 ?side3 A2.out).mono ?_); (case side1 => exact Kd.R_V (Kd.R_tight rfl (Kd.R_apart' (HO311.out) (Kd.R_typed HO314.out) (by decide)))); (case side2 => exact zE' (Kd.R_reads' HO314.out).2.2); (case side3 => exact (Kd.R_reads' HO314.out).2.1); rintro e w163 ⟨v316, rfl, ho0, hb⟩; refine ⟨_, rfl, ?_⟩; replace HO314 := (zRb HO314 hb); have HO317 := Aside0.mk (Kd.R_lower (Kd.R_new' (Kd.R_mono (ok' := fun k_ => True) ho0 (fun _ hk_ => trivial)) (Kd.R_lt (zR HO311))) (below_size zb)); replace HO311 := Aside0.mk (Kd.R_elder' (zR HO311) (Kd.R_base ho0) hb); replace HB := (zB hb); (try clear hb); (try clear hb2); (try clear hk); (try clear hi); (try clear ho0)) | ((with_reducible refine zG 39 rfl ?_); refine zg 20 Try.func39 ((marginalialaw04_sample.calls k  t321 _ A3.out).mono ?_); rintro e w164 ⟨v322, rfl, ho0, hb⟩; refine ⟨_, rfl, ?_⟩; replace HO314 := (zRb HO314 hb); have HO323 := Aside0.mk (Kd.R_lower (Kd.R_new' (Kd.R_new' ho0 (Kd.R_lt (zR HO311))) (Kd.R_lt (zR HO317))) (below_size zb)); replace HO311 := Aside0.mk (Kd.R_elder' (zR HO311) (Kd.R_base ho0) hb); replace HO317 := Aside0.mk (Kd.R_elder' (zR HO317) (Kd.R_base ho0) hb); replace HB := (zB hb); (try clear hb); (try clear hb2); (try clear hk); (try clear hi); (try clear ho0)) | ((with_reducible refine zG 15 rfl ?_); refine zg 21 Try.func15 ((marginaliaref03_Lex.calls k (⟨#[97, 32, 100, 32, 99]⟩ : ByteArray) t324 _ A4.out).mono ?_); rintro e w165 ⟨v325, rfl, ho0, hb⟩; refine ⟨_, rfl, ?_⟩; replace HO314 := (zRb HO314 hb); have HO326 := Aside0.mk (Kd.R_lower (Kd.R_new' (Kd.R_new' (Kd.R_new' ho0 (Kd.R_lt (zR HO311))) (Kd.R_lt (zR HO317))) (Kd.R_lt (zR HO323))) (below_size zb)); replace HO311 := Aside0.mk (Kd.R_elder' (zR HO311) (Kd.R_base ho0) hb); replace HO317 := Aside0.mk (Kd.R_elder' (zR HO317) (Kd.R_base ho0) hb); replace HO323 := Aside0.mk (Kd.R_elder' (zR HO323) (Kd.R_base ho0) hb); replace HB := (zB hb); (try clear hb); (try clear hb2); (try clear hk); (try clear hi); (try clear ho0); obtain ⟨Ao166, co166, eo166⟩ := Kd.R_slice HO323.out; subst eo166; obtain ⟨Ao167, co167, eo167⟩ := Kd.R_slice HO326.out; subst eo167) | ((with_reducible refine zG 21 rfl ?_); refine zg 22 Try.func21 ((relex_Common.calls k _ _ t321 _ _ t324 t327 t328 t329 _ ?side1 ?side2 ?side3 ?side4 A5.out).mono ?_); (case side1 => exact zE' (Kd.R_reads' HO323.out).2.2); (case side2 => exact (Kd.R_reads' HO323.out).2.1); (case side3 => exact zE' (Kd.R_reads' HO326.out).2.2); (case side4 => exact (Kd.R_reads' HO326.out).2.1); rintro e w168 ⟨rfl, hb⟩; refine ⟨_, rfl, ?_⟩; replace HO311 := (zRb HO311 hb); replace HO314 := (zRb HO314 hb); replace HO317 := (zRb HO317 hb); replace HO323 := (zRb HO323 hb); replace HO326 := (zRb HO326 hb); replace HB := (zB hb); (try clear hb); (try clear hb2); (try clear hk); (try clear hi)) | ((with_reducible refine zG 39 rfl ?_); refine zg 27 Try.func39 ((marginalialaw04_sample.calls k  t330 _ A6.out).mono ?_); rintro e w169 ⟨v331, rfl, ho0, hb⟩; refine ⟨_, rfl, ?_⟩; replace HO314 := (zRb HO314 hb); have HO332 := Aside0.mk (Kd.R_lower (Kd.R_new' (Kd.R_new' (Kd.R_new' (Kd.R_new' ho0 (Kd.R_lt (zR HO311))) (Kd.R_lt (zR HO317))) (Kd.R_lt (zR HO323))) (Kd.R_lt (zR HO326))) (below_size zb)); replace HO311 := Aside0.mk (Kd.R_elder' (zR HO311) (Kd.R_base ho0) hb); replace HO317 := Aside0.mk (Kd.R_elder' (zR HO317) (Kd.R_base ho0) hb); replace HO323 := Aside0.mk (Kd.R_elder' (zR HO323) (Kd.R_base ho0) hb); replace HO326 := Aside0.mk (Kd.R_elder' (zR HO326) (Kd.R_base ho0) hb); replace HB := (zB hb); (try clear hb); (try clear hb2); (try clear hk); (try clear hi); (try clear ho0)) | ((with_reducible refine zD 29 rfl ?_); refine Kd.R_lit k39 _ 39 ?hg (N := 29) ?hd (xs := ([(⟨2, 3, (⟨#[120, 10, 121]⟩ : ByteArray)⟩ : S39)] : List (S39))) (inner := [.int .i64 2, .int .i64 3, .string (⟨#[120, 10, 121]⟩ : ByteArray)]) (ok := fun _ => True) (okp := fun _ => True) ?hr ?hp (fun _ hk => hk) trivial (Below.refl _ _) (Nat.le_refl _) (by simp) ?_; (case hd => rfl); (case hg => rfl); (case hr => first | (go_simp; done) | (go_simp; rfl)); (case hp => exact (Reps.c3 (show Kd.M k39 _ _ _ (⟨2, 3, (⟨#[120, 10, 121]⟩ : ByteArray)⟩ : S39) [.int .i64 2, .int .i64 3, .string (⟨#[120, 10, 121]⟩ : ByteArray)] from (k39_mkM _ _ _ (⟨2, 3, (⟨#[120, 10, 121]⟩ : ByteArray)⟩ : S39) )) (Reps.none _ _))); intro v334 w170 ho171 hb hg_ hnew_; clear hg_ hnew_; (first | rw [← Ny333.out] at ho171 | (simp only [Int.reduceToNat] at ho171; rw [← Ny333.out] at ho171)); replace HO311 := (zRb HO311 hb); replace HO317 := (zRb HO317 hb); replace HO323 := (zRb HO323 hb); replace HO326 := (zRb HO326 hb); replace HO332 := (zRb HO332 hb); have HO335 := Aside0.mk (Kd.R_lower (Kd.R_new' ho171 (Kd.R_lt (zR HO314))) (below_size zb)); replace HO314 := Aside0.mk (Kd.R_elder' (zR HO314) (Kd.R_base ho171) hb); replace HB := (zB hb); clear hb ho171; obtain ⟨Ao172, co172, eo172⟩ := Kd.R_slice HO332.out; subst eo172; obtain ⟨Ao173, co173, eo173⟩ := Kd.R_slice HO335.out; subst eo173) | ((with_reducible refine zG 23 rfl ?_); refine zg 30 Try.func23 ((relex_Line.calls k _ _ t330 _ _ y333 t336 t337 _ ?side1 ?side2 ?side3 ?side4 A7.out).mono ?_); (case side1 => exact zE' (Kd.R_reads' HO332.out).2.2); (case side2 => exact (Kd.R_reads' HO332.out).2.1); (case side3 => exact zE' (Kd.R_reads' HO335.out).2.2); (case side4 => exact (Kd.R_reads' HO335.out).2.1); rintro e w174 ⟨rfl, hb⟩; refine ⟨_, rfl, ?_⟩; replace HO311 := (zRb HO311 hb); replace HO314 := (zRb HO314 hb); replace HO317 := (zRb HO317 hb); replace HO323 := (zRb HO323 hb); replace HO326 := (zRb HO326 hb); replace HO332 := (zRb HO332 hb); replace HO335 := (zRb HO335 hb); replace HB := (zB hb); (try clear hb); (try clear hb2); (try clear hk); (try clear hi)) | (go_at_call 15; (with_reducible refine (marginaliaref03_Lex.calls k (⟨#[97, 32, 120, 32, 121, 32, 99]⟩ : ByteArray) t338 _ A9.out).mono ?_); rintro e w175 ⟨v339, rfl, ho0, hb⟩; replace HO314 := (zRb HO314 hb); replace HO335 := (zRb HO335 hb); have HO340 := Aside0.mk (Kd.R_lower (Kd.R_new' (Kd.R_new' (Kd.R_new' (Kd.R_new' (Kd.R_new' ho0 (Kd.R_lt (zR HO311))) (Kd.R_lt (zR HO317))) (Kd.R_lt (zR HO323))) (Kd.R_lt (zR HO326))) (Kd.R_lt (zR HO332))) (below_size zb)); replace HO311 := Aside0.mk (Kd.R_elder' (zR HO311) (Kd.R_base ho0) hb); replace HO317 := Aside0.mk (Kd.R_elder' (zR HO317) (Kd.R_base ho0) hb); replace HO323 := Aside0.mk (Kd.R_elder' (zR HO323) (Kd.R_base ho0) hb); replace HO326 := Aside0.mk (Kd.R_elder' (zR HO326) (Kd.R_base ho0) hb); replace HO332 := Aside0.mk (Kd.R_elder' (zR HO332) (Kd.R_base ho0) hb); replace HB := (zB hb); (try clear hb); (try clear hb2); (try clear hk); (try clear hi); (try clear ho0); obtain ⟨Ao176, co176, eo176⟩ := Kd.R_slice HO317.out; subst eo176; obtain ⟨Ao177, co177, eo177⟩ := Kd.R_slice HO340.out; subst eo177) | (go_at_call 18; (with_reducible refine (marginaliaref03_Same.calls k _ _ t315 _ _ t338 false _ ?side1 ?side2 ?side3 ?side4 A10.out).mono ?_); (case side1 => exact zE' (Kd.R_reads' HO317.out).2.2); (case side2 => exact (Kd.R_reads' HO317.out).2.1); (case side3 => exact zE' (Kd.R_reads' HO340.out).2.2); (case side4 => exact (Kd.R_reads' HO340.out).2.1); rintro e w' ⟨rfl, ⟨nd, rfl⟩⟩))
   go_ret; exact ⟨zr, zb⟩
 ·rw [if_neg c8] at H; have c8b0 : (t320 == 0) = false := beq_eq_false_iff_ne.mpr c8; have c8b1 : (t320 != 0) = true := bne_iff_ne.mpr c8; obtain rfl := Option.some.inj H; go_enter Try.func14, Try.ntmps14
  go_wp2_with (first | ((with_reducible refine zG 39 rfl ?_); refine zg 11 Try.func39 ((marginalialaw04_sample.calls k  t309 _ A1.out).mono ?_); rintro e w178 ⟨v310, rfl, ho0, hb⟩; refine ⟨_, rfl, ?_⟩; have HO311 := Aside0.mk (Kd.R_lower ho0 (below_size zb)); replace HB := (zB hb); (try clear hb); (try clear hb2); (try clear hk); (try clear hi); (try clear ho0)) | ((with_reducible refine zD 13 rfl ?_); refine Kd.R_lit k39 _ 39 ?hg (N := 13) ?hd (xs := ([(⟨2, 3, (⟨#[120, 32, 121]⟩ : ByteArray)⟩ : S39)] : List (S39))) (inner := [.int .i64 2, .int .i64 3, .string (⟨#[120, 32, 121]⟩ : ByteArray)]) (ok := fun _ => True) (okp := fun _ => True) ?hr ?hp (fun _ hk => hk) trivial (Below.refl _ _) (Nat.le_refl _) (by simp) ?_; (case hd => rfl); (case hg => rfl); (case hr => first | (go_simp; done) | (go_simp; rfl)); (case hp => exact (Reps.c3 (show Kd.M k39 _ _ _ (⟨2, 3, (⟨#[120, 32, 121]⟩ : ByteArray)⟩ : S39) [.int .i64 2, .int .i64 3, .string (⟨#[120, 32, 121]⟩ : ByteArray)] from (k39_mkM _ _ _ (⟨2, 3, (⟨#[120, 32, 121]⟩ : ByteArray)⟩ : S39) )) (Reps.none _ _))); intro v313 w179 ho180 hb hg_ hnew_; clear hg_ hnew_; (first | rw [← Ny312.out] at ho180 | (simp only [Int.reduceToNat] at ho180; rw [← Ny312.out] at ho180)); replace HO311 := (zRb HO311 hb); have HO314 := Aside0.mk (Kd.R_lower ho180 (below_size zb)); replace HB := (zB hb); clear hb ho180; obtain ⟨Ao181, co181, eo181⟩ := Kd.R_slice HO311.out; subst eo181; obtain ⟨Ao182, co182, eo182⟩ := Kd.R_slice HO314.out; subst eo182) | ((with_reducible refine zG 12 rfl ?_); refine zg 14 Try.func12 ((relex_Relex.calls k (fun k_ => some k_ = (.slice Ao181 t309.length co181 : Value).ownBlock) _ _ t309 _ _ y312 t315 t318 t319 t320 _ ?side1 ?side2 ?side3 A2.out).mono ?_); (case side1 => exact Kd.R_V (Kd.R_tight rfl (Kd.R_apart' (HO311.out) (Kd.R_typed HO314.out) (by decide)))); (case side2 => exact zE' (Kd.R_reads' HO314.out).2.2); (case side3 => exact (Kd.R_reads' HO314.out).2.1); rintro e w183 ⟨v316, rfl, ho0, hb⟩; refine ⟨_, rfl, ?_⟩; replace HO314 := (zRb HO314 hb); have HO317 := Aside0.mk (Kd.R_lower (Kd.R_new' (Kd.R_mono (ok' := fun k_ => True) ho0 (fun _ hk_ => trivial)) (Kd.R_lt (zR HO311))) (below_size zb)); replace HO311 := Aside0.mk (Kd.R_elder' (zR HO311) (Kd.R_base ho0) hb); replace HB := (zB hb); (try clear hb); (try clear hb2); (try clear hk); (try clear hi); (try clear ho0)) | ((with_reducible refine zG 39 rfl ?_); refine zg 20 Try.func39 ((marginalialaw04_sample.calls k  t321 _ A3.out).mono ?_); rintro e w184 ⟨v322, rfl, ho0, hb⟩; refine ⟨_, rfl, ?_⟩; replace HO314 := (zRb HO314 hb); have HO323 := Aside0.mk (Kd.R_lower (Kd.R_new' (Kd.R_new' ho0 (Kd.R_lt (zR HO311))) (Kd.R_lt (zR HO317))) (below_size zb)); replace HO311 := Aside0.mk (Kd.R_elder' (zR HO311) (Kd.R_base ho0) hb); replace HO317 := Aside0.mk (Kd.R_elder' (zR HO317) (Kd.R_base ho0) hb); replace HB := (zB hb); (try clear hb); (try clear hb2); (try clear hk); (try clear hi); (try clear ho0)) | ((with_reducible refine zG 15 rfl ?_); refine zg 21 Try.func15 ((marginaliaref03_Lex.calls k (⟨#[97, 32, 100, 32, 99]⟩ : ByteArray) t324 _ A4.out).mono ?_); rintro e w185 ⟨v325, rfl, ho0, hb⟩; refine ⟨_, rfl, ?_⟩; replace HO314 := (zRb HO314 hb); have HO326 := Aside0.mk (Kd.R_lower (Kd.R_new' (Kd.R_new' (Kd.R_new' ho0 (Kd.R_lt (zR HO311))) (Kd.R_lt (zR HO317))) (Kd.R_lt (zR HO323))) (below_size zb)); replace HO311 := Aside0.mk (Kd.R_elder' (zR HO311) (Kd.R_base ho0) hb); replace HO317 := Aside0.mk (Kd.R_elder' (zR HO317) (Kd.R_base ho0) hb); replace HO323 := Aside0.mk (Kd.R_elder' (zR HO323) (Kd.R_base ho0) hb); replace HB := (zB hb); (try clear hb); (try clear hb2); (try clear hk); (try clear hi); (try clear ho0); obtain ⟨Ao186, co186, eo186⟩ := Kd.R_slice HO323.out; subst eo186; obtain ⟨Ao187, co187, eo187⟩ := Kd.R_slice HO326.out; subst eo187) | ((with_reducible refine zG 21 rfl ?_); refine zg 22 Try.func21 ((relex_Common.calls k _ _ t321 _ _ t324 t327 t328 t329 _ ?side1 ?side2 ?side3 ?side4 A5.out).mono ?_); (case side1 => exact zE' (Kd.R_reads' HO323.out).2.2); (case side2 => exact (Kd.R_reads' HO323.out).2.1); (case side3 => exact zE' (Kd.R_reads' HO326.out).2.2); (case side4 => exact (Kd.R_reads' HO326.out).2.1); rintro e w188 ⟨rfl, hb⟩; refine ⟨_, rfl, ?_⟩; replace HO311 := (zRb HO311 hb); replace HO314 := (zRb HO314 hb); replace HO317 := (zRb HO317 hb); replace HO323 := (zRb HO323 hb); replace HO326 := (zRb HO326 hb); replace HB := (zB hb); (try clear hb); (try clear hb2); (try clear hk); (try clear hi)) | ((with_reducible refine zG 39 rfl ?_); refine zg 27 Try.func39 ((marginalialaw04_sample.calls k  t330 _ A6.out).mono ?_); rintro e w189 ⟨v331, rfl, ho0, hb⟩; refine ⟨_, rfl, ?_⟩; replace HO314 := (zRb HO314 hb); have HO332 := Aside0.mk (Kd.R_lower (Kd.R_new' (Kd.R_new' (Kd.R_new' (Kd.R_new' ho0 (Kd.R_lt (zR HO311))) (Kd.R_lt (zR HO317))) (Kd.R_lt (zR HO323))) (Kd.R_lt (zR HO326))) (below_size zb)); replace HO311 := Aside0.mk (Kd.R_elder' (zR HO311) (Kd.R_base ho0) hb); replace HO317 := Aside0.mk (Kd.R_elder' (zR HO317) (Kd.R_base ho0) hb); replace HO323 := Aside0.mk (Kd.R_elder' (zR HO323) (Kd.R_base ho0) hb); replace HO326 := Aside0.mk (Kd.R_elder' (zR HO326) (Kd.R_base ho0) hb); replace HB := (zB hb); (try clear hb); (try clear hb2); (try clear hk); (try clear hi); (try clear ho0)) | ((with_reducible refine zD 29 rfl ?_); refine Kd.R_lit k39 _ 39 ?hg (N := 29) ?hd (xs := ([(⟨2, 3, (⟨#[120, 10, 121]⟩ : ByteArray)⟩ : S39)] : List (S39))) (inner := [.int .i64 2, .int .i64 3, .string (⟨#[120, 10, 121]⟩ : ByteArray)]) (ok := fun _ => True) (okp := fun _ => True) ?hr ?hp (fun _ hk => hk) trivial (Below.refl _ _) (Nat.le_refl _) (by simp) ?_; (case hd => rfl); (case hg => rfl); (case hr => first | (go_simp; done) | (go_simp; rfl)); (case hp => exact (Reps.c3 (show Kd.M k39 _ _ _ (⟨2, 3, (⟨#[120, 10, 121]⟩ : ByteArray)⟩ : S39) [.int .i64 2, .int .i64 3, .string (⟨#[120, 10, 121]⟩ : ByteArray)] from (k39_mkM _ _ _ (⟨2, 3, (⟨#[120, 10, 121]⟩ : ByteArray)⟩ : S39) )) (Reps.none _ _))); intro v334 w190 ho191 hb hg_ hnew_; clear hg_ hnew_; (first | rw [← Ny333.out] at ho191 | (simp only [Int.reduceToNat] at ho191; rw [← Ny333.out] at ho191)); replace HO311 := (zRb HO311 hb); replace HO317 := (zRb HO317 hb); replace HO323 := (zRb HO323 hb); replace HO326 := (zRb HO326 hb); replace HO332 := (zRb HO332 hb); have HO335 := Aside0.mk (Kd.R_lower (Kd.R_new' ho191 (Kd.R_lt (zR HO314))) (below_size zb)); replace HO314 := Aside0.mk (Kd.R_elder' (zR HO314) (Kd.R_base ho191) hb); replace HB := (zB hb); clear hb ho191; obtain ⟨Ao192, co192, eo192⟩ := Kd.R_slice HO332.out; subst eo192; obtain ⟨Ao193, co193, eo193⟩ := Kd.R_slice HO335.out; subst eo193) | ((with_reducible refine zG 23 rfl ?_); refine zg 30 Try.func23 ((relex_Line.calls k _ _ t330 _ _ y333 t336 t337 _ ?side1 ?side2 ?side3 ?side4 A7.out).mono ?_); (case side1 => exact zE' (Kd.R_reads' HO332.out).2.2); (case side2 => exact (Kd.R_reads' HO332.out).2.1); (case side3 => exact zE' (Kd.R_reads' HO335.out).2.2); (case side4 => exact (Kd.R_reads' HO335.out).2.1); rintro e w194 ⟨rfl, hb⟩; refine ⟨_, rfl, ?_⟩; replace HO311 := (zRb HO311 hb); replace HO314 := (zRb HO314 hb); replace HO317 := (zRb HO317 hb); replace HO323 := (zRb HO323 hb); replace HO326 := (zRb HO326 hb); replace HO332 := (zRb HO332 hb); replace HO335 := (zRb HO335 hb); replace HB := (zB hb); (try clear hb); (try clear hb2); (try clear hk); (try clear hi)))
  go_ret; exact ⟨zr, zb⟩

end Go.Proofs.Ytahcpappailjgaa.P

namespace Go.Proofs.Ytahcpappailjgaa.P
open Go.RowKit Go.Proofs.YtahcpappailjgaaW.PrintWords Go.Proofs.YtahcpappailjgaaW.PrintLast Go.Proofs.YtahcpappailjgaaW.PrintMore
attribute [local go_sem] max2_int min2_int max_two min_two max_three min_three max_four min_four
set_option linter.unusedVariables false
set_option linter.unusedSimpArgs false

/-! ### marginaliaref01_Cut: function 11 -/
def marginaliaref01_Cut.l0 : Nat → List (S39) → Int → List (S39) → Int → Option ((List (S39)))
 | 0, _, _, _, _ => none
 | k + 1, x0, x1, x5, x6 => if x6 < (x0.length : Int) then (if x6 < 102 then (if 0 ≤ x6 then (if 0 ≤ (mn (((rd_T39 x0 x6).f2).size : Int) x1) then (if (mn (((rd_T39 x0 x6).f2).size : Int) x1) ≤ (((rd_T39 x0 x6).f2).size : Int) then (if x5.length < 4398046511104 then (marginaliaref01_Cut.l0 k x0 x1 (x5 ++ [(⟨(rd_T39 x0 x6).f0, (rd_T39 x0 x6).f1, ((rd_T39 x0 x6).f2).extract 0 ((mn (((rd_T39 x0 x6).f2).size : Int) x1) : Int).toNat⟩ : S39)]) (wrap64 (x6 + 1))) else (none)) else (none)) else (none)) else (none)) else (some x5)) else (some x5)
def marginaliaref01_Cut.f (k : Nat) (l0 : List (S39)) (a1 : Int) : Option ((List (S39))) := marginaliaref01_Cut.l0 k l0 a1 ([] : List (S39)) 0
def marginaliaref01_Cut.T6 : Bool × List (List Nat × List Nat) := (true, [([], []), ([], []), ([1], [1]), ([], []), ([3], [3]), ([], []), ([5], [5]), ([], []), ([7], [7]), ([8], [8]), ([], []), ([9, 10], [9, 10]), ([6, 11], [6, 11]), ([2, 4, 12], [2, 4, 12]), ([13], [13]), ([0, 14], [0, 14]), ([15, 15, 0, 1, 2, 3, 4, 5, 6, 7, 8, 9, 10, 11, 12, 13, 14, 15], [0, 15])])
def marginaliaref01_Cut.B6 : List Nat := [0, 0, 2, 0, 8, 0, 32, 0, 128, 384, 0, 1920, 4064, 8190, 16382, 32767, 65535]
theorem marginaliaref01_Cut.tab6 : rtab .any (opsOf Try.f11 6) = marginaliaref01_Cut.T6 := by kernel_rfl
theorem marginaliaref01_Cut.bits6 : waitsOk marginaliaref01_Cut.T6.2 marginaliaref01_Cut.B6 = true := by kernel_rfl
set_option maxHeartbeats 8000000 in
set_option maxRecDepth 100000 in
theorem marginaliaref01_Cut.calls (k : Nat) (A0 : Option Addr) (c0 : Nat) (l0 : List (S39)) (a1 : Int) (r : List (S39)) (w : World) (hr0 : Kd.C k39 w A0 l0.length l0) (hc0 : l0.length ≤ c0) (h : marginaliaref01_Cut.f k l0 a1 = some r) :
  Calls Try.prog 11 #[.slice A0 l0.length c0, .int .i64 a1] w fun e w' => ∃ v0_ : Value, e = .returned (v0_) ∧ Kd.R k39 39 w' w.heap.size (fun _ => True) v0_ r ∧ Below w.heap.size w w' := by
 have hu39 := Try.underlying39; have HR0 := Aside0.mk hr0; have HC0 := Aside0.mk hc0; clear hr0 hc0; have HB := Aside0.mk (Below.refl w.heap.size w); have H : (marginaliaref01_Cut.l0 k l0 a1 ([] : List (S39)) 0) = some r := h; clear h; have H' := Aside0.mk H; clear H; go_enter Try.func11, Try.ntmps11; go_wp2
 go_loopg [5, 6] k (fun kq v5 v6 w' => ∃ (x5_1 : List (S39)) (x6_1 : Int), v6 = .int .i64 x6_1 ∧ Aside0 (marginaliaref01_Cut.l0 kq l0 a1 x5_1 x6_1 = some r) ∧ Aside0 (kq ≤ k) ∧ Aside0 (Kd.R k39 39 w' w.heap.size (fun _ => True) v5 x5_1) ∧ Aside0 (Below w.heap.size w w'))
 case atStart => exact ⟨(([] : List (S39))), (0), zs, H', ⟨Nat.le_refl _⟩, ⟨by first | exact Kd.R_nil _ _ _ _ _ | exact Kd.N_nil _ _ _ _ _ | exact Kd.V_nil _ _ _ _ _ | exact Kd.Q_nil _ _ _ _ _ | exact Kd.S_nil _ _ _ _ _⟩, ⟨zb⟩⟩
 case round =>
  clear H'; obtain ⟨x5_1, x6_1, rfl, HA, HK1, HO_5, HB⟩ := hrel
  cases gk with
  | zero => exact absurd HA.out (by simp [marginaliaref01_Cut.l0])
  | succ k1 =>
   have H := HA.out; clear HA; simp only [marginaliaref01_Cut.l0] at H; by_cases c3 : x6_1 < (l0.length : Int)
   ·rw [if_pos c3] at H; have c3b0 := decide_eq_true c3; clear c3; by_cases c4 : x6_1 < 102
    ·rw [if_pos c4] at H; have c4b0 := decide_eq_true c4; clear c4; replace H := zi1 H; obtain ⟨c5b0, H⟩ := H
     obtain ⟨ji6, hji6⟩ : ∃ j_ : Int, (mn (((rd_T39 l0 x6_1).f2).size : Int) a1) = j_ := ⟨_, rfl⟩
     replace H : (if 0 ≤ (ji6) then (if (ji6) ≤ (((rd_T39 l0 x6_1).f2).size : Int) then (if x5_1.length < 4398046511104 then (marginaliaref01_Cut.l0 k1 l0 a1 (x5_1 ++ [(⟨(rd_T39 l0 x6_1).f0, (rd_T39 l0 x6_1).f1, ((rd_T39 l0 x6_1).f2).extract 0 ((ji6) : Int).toNat⟩ : S39)]) (wrap64 (x6_1 + 1))) else (none)) else (none)) else (none)) = some r := by first | (rw [hji6] at H; exact H) | (simp only [hji6] at H ⊢; exact H)
     have hji6_ : (if a1 < (((rd_T39 l0 x6_1).f2).size : Int) then a1 else (((rd_T39 l0 x6_1).f2).size : Int)) = ji6 := hji6; replace H := zi2 H; obtain ⟨c7b0, c7b1, H⟩ := H; replace H := zi2 H; obtain ⟨c8b0, c8b1, H⟩ := H; replace H := zi H; obtain ⟨c9, H⟩ := H; have LMc9 := Aside0.mk c9; clear c9
     obtain ⟨y109, hy109⟩ : ∃ y_ : List (S39), y_ = (x5_1 ++ [(⟨(rd_T39 l0 x6_1).f0, (rd_T39 l0 x6_1).f1, ((rd_T39 l0 x6_1).f2).extract 0 ((ji6) : Int).toNat⟩ : S39)]) := ⟨_, rfl⟩
     replace H : (marginaliaref01_Cut.l0 k1 l0 a1 y109 (wrap64 (x6_1 + 1))) = some r := by first | (rw [hy109]; with_reducible exact H) | (have H2_ := (Option.bind_some _ _).symm.trans H; rw [hy109]; with_reducible exact H2_) | (have H2_ := (Option.bind_some _ _).symm.trans H; with_reducible exact H2_) | with_reducible exact H | (rw [hy109]; exact H) | exact H
     have Ny109 := Aside0.mk hy109; clear hy109; have H' := Aside0.mk H; clear H; have p107 : 0 ≤ (x6_1 : Int) := zt; have q107 : x6_1 < (l0.length : Int) := zt; obtain ⟨ad107, e107, hx107_0, hx107_1, hx107_2⟩ := at_T39 HR0.out x6_1 p107 q107
     cases e107
     replace hx107_0 := zh HB hx107_0; replace hx107_1 := zh HB hx107_1; replace hx107_2 := zh HB hx107_2; replace p107 := eq_true p107; replace q107 := eq_true q107
     try go_wp2_with (first | ((with_reducible refine zD 7 rfl ?_); refine zx 7 #[.int .i64 0, .int .i64 0, .string (⟨#[]⟩ : ByteArray)] 39 ?_; intro gb108 hg w10 hbox hb; replace HO_5 := Aside0.mk (Kd.R_below (Kd.R_elderB (zR HO_5) gb108 (Nat.le_of_eq hg.symm)) hb); have BK108 := Aside0.mk (hbox); have GW108 := (zq hg : Aside0 (w.heap.size ≤ gb108)); have GE108 := GW108; replace HB := (zB hb); clear hb hbox hg; obtain ⟨hcz11_0, hcz11_1, hcz11_2⟩ := zc3 BK108; obtain ⟨hfz11_0, hfz11_1, hfz11_2⟩ := zz3 BK108))
     have n0_ : Aside0 (Kd.R k39 39 (((w10.setCell ⟨gb108, 0, none⟩ (.int .i64 ((rd_T39 l0 x6_1).f0))).setCell ⟨gb108, 1, none⟩ (.int .i64 ((rd_T39 l0 x6_1).f1))).setCell ⟨gb108, 2, none⟩ (.string ((rd_T39 l0 x6_1).f2))) w.heap.size (fun k_ => k_ ≠ gb108) u5 x5_1) := ⟨by (with_reducible repeat (first | apply Kd.R_alloc | apply Kd.R_drewN | apply Kd.R_drew)); exact Kd.R_mono (Kd.R_far (p := ⟨gb108, 2, none⟩) (Kd.R_far (p := ⟨gb108, 1, none⟩) (Kd.R_far (p := ⟨gb108, 0, none⟩) (Kd.R_mono HO_5.out (fun k_ hk => (⟨hk, hk.2⟩ : _ ∧ k_ ≠ gb108))) (fun _ hk => hk.2) (.int .i64 ((rd_T39 l0 x6_1).f0))) (fun _ hk => hk.2) (.int .i64 ((rd_T39 l0 x6_1).f1))) (fun _ hk => hk.2) (.string ((rd_T39 l0 x6_1).f2))) (fun _ hk => hk.1.2)⟩
     have n1_ : Aside0 ((((w10.setCell ⟨gb108, 0, none⟩ (.int .i64 ((rd_T39 l0 x6_1).f0))).setCell ⟨gb108, 1, none⟩ (.int .i64 ((rd_T39 l0 x6_1).f1))).setCell ⟨gb108, 2, none⟩ (.string ((rd_T39 l0 x6_1).f2))).heap[gb108]? = some (.cells #[.int .i64 ((rd_T39 l0 x6_1).f0), .int .i64 ((rd_T39 l0 x6_1).f1), .string ((rd_T39 l0 x6_1).f2)] 39 (0, 0))) := ⟨zw⟩
     have n2_ : Aside0 (Below w.heap.size w (((w10.setCell ⟨gb108, 0, none⟩ (.int .i64 ((rd_T39 l0 x6_1).f0))).setCell ⟨gb108, 1, none⟩ (.int .i64 ((rd_T39 l0 x6_1).f1))).setCell ⟨gb108, 2, none⟩ (.string ((rd_T39 l0 x6_1).f2)))) := ⟨zb⟩
     (try clear HO_5)
     (try clear BK108)
     (try clear HB)
     generalize (((w10.setCell ⟨gb108, 0, none⟩ (.int .i64 ((rd_T39 l0 x6_1).f0))).setCell ⟨gb108, 1, none⟩ (.int .i64 ((rd_T39 l0 x6_1).f1))).setCell ⟨gb108, 2, none⟩ (.string ((rd_T39 l0 x6_1).f2))) = w12 at n0_ n1_ n2_ ⊢; have HO_5 := n0_; have BK108 := n1_; have HB := n2_; clear n0_ n1_ n2_; replace HO_5 := Aside0.mk (Kd.R_drew HO_5.out); replace BK108 := Aside0.mk (blk_drew BK108.out); replace HB := Aside0.mk (below_drew1 HB.out); refine start_ (n := 17) (S := fun w' => w'.cell? ⟨gb108, 0, none⟩ = some (.int .i64 ((rd_T39 l0 x6_1).f0)) ∧ w'.cell? ⟨gb108, 1, none⟩ = some (.int .i64 ((rd_T39 l0 x6_1).f1)) ∧ w'.cell? ⟨gb108, 2, none⟩ = some (.string ((rd_T39 l0 x6_1).f2))) (ds := []) #[false, false, false, false, false, false, false, false, false, false, false, false, false, false, false, false, false] (by kernel_rfl) rfl rfl ⟨(blk_cell BK108.out 0).trans rfl, (blk_cell BK108.out 1).trans rfl, (blk_cell BK108.out 2).trans rfl⟩ (fun hHeld => ?_); refine with_tabW marginaliaref01_Cut.tab6 marginaliaref01_Cut.bits6 (fun HT_ HW_ => ?_); generalize w12.drew = w13 at HO_5 BK108 HB hHeld ⊢; refine zp 0 22 HT_ ?_; refine zp 1 23 HT_ ?_; refine zp 3 25 HT_ ?_; refine zp 5 27 HT_ ?_; refine zp 7 29 HT_ ?_; refine zp 10 32 HT_ ?_; refine zy 2 24 HT_ HW_ hHeld ?_; refine zy 4 26 HT_ HW_ hHeld ?_; refine zy 6 28 HT_ HW_ hHeld ?_; refine zy 8 30 HT_ HW_ hHeld ?_; refine zp 9 31 HT_ ?_; refine zp 11 33 HT_ ?_; refine zp 12 34 HT_ ?_; refine zp 13 35 HT_ ?_; refine one_ (i := 14) (N := some 36) #[true, true, true, true, true, true, true, true, true, true, true, true, true, true, true, false, false] rfl rfl (one_of HT_.out (by kernel_rfl)) (by decide) (fun K hK => ?_); refine value_ (w1 := ?_) (v := ?_) (by rfl) rfl ?_ ?_; rotate_left 2
     ·go_simp
      constructor
      ·rfl
      ·rfl
     refine hK.out _ _ ⟨(blk_cell (blk_alloc BK108.out _) 0).trans rfl, (blk_cell (blk_alloc BK108.out _) 1).trans rfl, (blk_cell (blk_alloc BK108.out _) 2).trans rfl⟩ (fun hHeld => ?_); clear hK K; refine norm_ (a' := ?_) ?_ ?_; rotate_left
     ·show Act.put _ (some 36) _ = _
      simp only [Act.put, List.setIfInBounds_toArray, List.set_cons_zero, List.set_cons_succ, i64_w, i32_w]; rfl
     refine one_ (i := 15) (N := some 37) #[true, true, true, true, true, true, true, true, true, true, true, true, true, true, true, true, false] rfl rfl (one_of HT_.out (by kernel_rfl)) (by decide) (fun K hK => ?_); refine Kd.R_append_step k39 (w0 := w) w.heap.size (by rfl) (.tmp 22) (.tmp 36) 23 39 (.agg #[(.int .i64 0), (.int .i64 0), (.string ⟨#[]⟩)]) 32 rfl Try.underlying23 info39 rfl (by decide) (by omega) u5 x5_1 (⟨(rd_T39 l0 x6_1).f0, (rd_T39 l0 x6_1).f1, ((rd_T39 l0 x6_1).f2).extract 0 ((ji6) : Int).toNat⟩ : S39) [.int .i64 ((rd_T39 l0 x6_1).f0), .int .i64 ((rd_T39 l0 x6_1).f1), .string (((rd_T39 l0 x6_1).f2).extract 0 ((ji6) : Int).toNat)] (fun k_ => k_ ≠ gb108) (fun _ => False) rfl rfl ?aP (fun _ hk => hk.elim) ?aF ?aO ?aB ?aS ?aL ?_
     (case aP => exact k39_mkM _ _ _ (⟨(rd_T39 l0 x6_1).f0, (rd_T39 l0 x6_1).f1, ((rd_T39 l0 x6_1).f2).extract 0 ((ji6) : Int).toNat⟩ : S39))
     (case aB => exact zb)
     (case aF => exact (fun k_ hk => Kd.freshB (g := gb108) (o := .cells #[.int .i64 ((rd_T39 l0 x6_1).f0), .int .i64 ((rd_T39 l0 x6_1).f1), .string ((rd_T39 l0 x6_1).f2)] 39 (0, 0)) (Cl.blk BK108.out) k_ hk))
     (case aO => exact (zR HO_5))
     (case aS => exact (below_size zb))
     (case aL => have := LMc9.out; omega)
     intro v110 w14 ho hb hg hat; rw [← Ny109.out] at ho
     replace BK108 := (blk_grown' BK108 hg (Kd.R_away HO_5.out (fun _ hk => hk)))
     replace HB := Aside0.mk (hb); have HO111 := Aside0.mk (ho); clear HO_5 ho hb hg hat; refine hK.out _ _ ⟨(blk_cell BK108.out 0).trans rfl, (blk_cell BK108.out 1).trans rfl, (blk_cell BK108.out 2).trans rfl⟩ (fun hHeld => ?_); clear hK K; refine norm_ (a' := ?_) ?_ ?_; rotate_left
     ·show Act.put _ (some 37) _ = _
      simp only [Act.put, List.setIfInBounds_toArray, List.set_cons_zero, List.set_cons_succ, i64_w, i32_w]; rfl
     refine zp 16 5 HT_ ?_; refine done_ (done_of HT_.out (by kernel_rfl)) ?_
     try go_wp2
     go_roundg k1
     case measure => have := HK1.out; omega
     case rel => exact ⟨(y109), (wrap64 (x6_1 + 1)), zs, H', zk, ⟨by (with_reducible repeat (first | apply Kd.R_alloc | apply Kd.R_drewN | apply Kd.R_drew)); exact Kd.R_mono HO111.out (fun _ hk => trivial)⟩, ⟨zb⟩⟩
    ·rw [if_neg c4] at H; have c4b0 := decide_eq_false c4; clear c4; obtain rfl := Option.some.inj H; go_wp2; go_ret; exact ⟨_, zr, by (with_reducible repeat (first | apply Kd.R_alloc | apply Kd.R_drewN | apply Kd.R_drew)); exact HO_5.out, zb⟩
   ·rw [if_neg c3] at H; have c3b0 := decide_eq_false c3; clear c3; obtain rfl := Option.some.inj H; go_wp2; go_ret; exact ⟨_, zr, by (with_reducible repeat (first | apply Kd.R_alloc | apply Kd.R_drewN | apply Kd.R_drew)); exact HO_5.out, zb⟩

end Go.Proofs.Ytahcpappailjgaa.P

namespace Go.Proofs.Ytahcpappailjgaa.P
open Go.RowKit Go.Proofs.YtahcpappailjgaaW.PrintWords Go.Proofs.YtahcpappailjgaaW.PrintLast Go.Proofs.YtahcpappailjgaaW.PrintMore
attribute [local go_sem] max2_int min2_int max_two min_two max_three min_three max_four min_four
set_option linter.unusedVariables false
set_option linter.unusedSimpArgs false

/-! ### marginaliaref01_Short: function 25 -/
def marginaliaref01_Short.f (a0 : ByteArray) : Option (ByteArray) := if 0 ≤ (mn (a0.size : Int) 20001) then (if (mn (a0.size : Int) 20001) ≤ (a0.size : Int) then (some (a0.extract 0 ((mn (a0.size : Int) 20001) : Int).toNat)) else (none)) else (none)
set_option maxHeartbeats 8000000 in
set_option maxRecDepth 100000 in
theorem marginaliaref01_Short.calls (a0 : ByteArray) (r : ByteArray) (w : World) (h : marginaliaref01_Short.f a0 = some r) :
  Calls Try.prog 25 #[.string a0] w fun e w' => e = .returned (.string r) ∧ Below w.heap.size w w' := by
 have HB := Aside0.mk (Below.refl w.heap.size w); have H : (if 0 ≤ (mn (a0.size : Int) 20001) then (if (mn (a0.size : Int) 20001) ≤ (a0.size : Int) then (some (a0.extract 0 ((mn (a0.size : Int) 20001) : Int).toNat)) else (none)) else (none)) = some r := h; clear h
 obtain ⟨ji2, hji2⟩ : ∃ j_ : Int, (mn (a0.size : Int) 20001) = j_ := ⟨_, rfl⟩
 replace H : (if 0 ≤ (ji2) then (if (ji2) ≤ (a0.size : Int) then (some (a0.extract 0 ((ji2) : Int).toNat)) else (none)) else (none)) = some r := by first | (rw [hji2] at H; exact H) | (simp only [hji2] at H ⊢; exact H)
 (try (have hji2h : ji2 ≤ 20001 := by (rw [← hji2]; unfold mn; (repeat' split) <;> omega)))
 (try (have hji2g : ji2 ≤ 64 := by omega))
 (try (have hji2l : 0 ≤ ji2 := by (rw [← hji2]; unfold mn; (repeat' split) <;> omega)))
 (try (have hji2m : 0 ≤ ji2 := by omega))
 have hji2_ : (if 20001 < (a0.size : Int) then 20001 else (a0.size : Int)) = ji2 := hji2; replace H := zi2 H; obtain ⟨c3b0, c3b1, H⟩ := H; replace H := zi2 H; obtain ⟨c4b0, c4b1, H⟩ := H; obtain rfl := Option.some.inj H; go_enter Try.func25, Try.ntmps25; go_wp2; go_ret; exact ⟨by first | rfl | (simp [errW_none, errW_some] <;> rfl) | (simp only [← hji2]; first | rfl | (simp [errW_none, errW_some] <;> rfl)) | (simp [*, errW_none, errW_some] <;> rfl), zb⟩

end Go.Proofs.Ytahcpappailjgaa.P

set_option linter.unusedVariables false
set_option linter.unusedSimpArgs false
namespace Go.Proofs.Ytahcpappailjgaa.P
open Go.RowKit Go.Proofs.YtahcpappailjgaaW.PrintWords Go.Proofs.YtahcpappailjgaaW.PrintLast Go.Proofs.YtahcpappailjgaaW.PrintMore
/-! ### rounds -/
theorem Ev.shift {α : Type} {g : Nat → Option α} {r : α} (h : Ev (fun k => g (k + 1)) r) : Ev g r := Ev.step (fun _ => rfl) h
theorem Ev.pos {α : Type} {c : Prop} [Decidable c] {f g : Nat → Option α} {r : α} (h : c) (k : Ev f r) : Ev (fun n => if c then f n else g n) r := by
 simp only [if_pos h]; exact k
theorem Ev.neg {α : Type} {c : Prop} [Decidable c] {f g : Nat → Option α} {r : α} (h : ¬ c) (k : Ev g r) : Ev (fun n => if c then f n else g n) r := by
 simp only [if_neg h]; exact k
theorem Ev.bind1 {α β : Type} {o : Option α} {f : Nat → α → Option β} {a : α} {r : β} (h : o = some a) (k : Ev (fun n => f n a) r) : Ev (fun n => o.bind (f n)) r := by
 rw [h]; exact k
theorem w64 {n : Int} (h : -9223372036854775808 ≤ n) (h' : n ≤ 9223372036854775807) : wrap64 n = n := by unfold wrap64; omega
abbrev Ed := S39
theorem rd_at {l : List Ed} {i : Nat} {e : Ed} {r : List Ed} (h : l.drop i = e :: r) : rd_T39 l (i : Int) = e := by
 have h1 : l[i]? = some e := by
  have := congrArg (fun x : List Ed => x[0]?) h
  simpa [List.getElem?_drop] using this
 simp [rd_T39, List.getD_eq_getElem?_getD, h1]
theorem lt_of_drop {α : Type} {l : List α} {i : Nat} {e : α} {r : List α} (h : l.drop i = e :: r) : i < l.length := by
 have := congrArg List.length h
 simp at this
 omega
theorem drop_next {α : Type} {l : List α} {i : Nat} {e : α} {r : List α} (h : l.drop i = e :: r) : l.drop (i + 1) = r := by
 have := congrArg (List.drop 1) h
 simpa [List.drop_drop, Nat.add_comm] using this
theorem le_of_nil {α : Type} {l : List α} {i : Nat} (h : l.drop i = []) : l.length ≤ i := by
 have := congrArg List.length h
 simp at this
 omega

/-! ### Short, Cut -/
theorem mn_nat (a b : Nat) : mn (a : Int) (b : Int) = ((min a b : Nat) : Int) := by unfold mn; (repeat' split) <;> omega
theorem mx_nat (a b : Nat) : mx (a : Int) (b : Int) = ((max a b : Nat) : Int) := by unfold mx; (repeat' split) <;> omega
def short (s : ByteArray) : ByteArray := s.extract 0 (min s.size 20001)
theorem Short_eq (s : ByteArray) : marginaliaref01_Short.f s = some (short s) := by
 have h : mn (s.size : Int) 20001 = ((min s.size 20001 : Nat) : Int) := mn_nat s.size 20001; unfold marginaliaref01_Short.f; rw [h, if_pos (by omega), if_pos (by omega)]
 simp [short]
theorem short_size (s : ByteArray) : (short s).size ≤ 20001 := by
 simp only [short, ByteArray.size_extract]
 omega
/-- An edit whose numbers are ints. -/
def Ok (e : Ed) : Prop := (-9223372036854775808 ≤ e.f0 ∧ e.f0 ≤ 9223372036854775807) ∧ (-9223372036854775808 ≤ e.f1 ∧ e.f1 ≤ 9223372036854775807)
def cutE (n : Nat) (e : Ed) : Ed := ⟨e.f0, e.f1, e.f2.extract 0 (min e.f2.size n)⟩
def cut (n : Nat) (l : List Ed) : List Ed := (l.take 102).map (cutE n)
theorem Cut_loop (l : List Ed) (n : Nat) (hl : l.length ≤ 9223372036854775807) : ∀ (d i : Nat) (acc : List Ed), 102 - i = d → i ≤ 102 → acc.length ≤ 102 → acc.length = i →
  Ev (fun k => marginaliaref01_Cut.l0 k l (n : Int) acc (i : Int)) (acc ++ ((l.drop i).take (102 - i)).map (cutE n)) := by
 intro d
 induction d with
 | zero =>
  intro i acc hd hi ha hai; refine Ev.shift ?_; simp only [marginaliaref01_Cut.l0]; rw [show 102 - i = 0 by omega]; by_cases hlt : (i : Int) < (l.length : Int)
  ·refine Ev.pos hlt (Ev.neg (by omega) ?_)
   simpa using Ev.now acc
  ·refine Ev.neg hlt ?_
   simpa using Ev.now acc
 | succ d ih =>
  intro i acc hd hi ha hai; refine Ev.shift ?_; simp only [marginaliaref01_Cut.l0]
  cases hdr : l.drop i with
  | nil =>
   have := le_of_nil hdr; refine Ev.neg (by omega) ?_
   simpa using Ev.now acc
  | cons e r =>
   have hlt := lt_of_drop hdr; rw [rd_at hdr, mn_nat]; refine Ev.pos (by omega) (Ev.pos (by omega) (Ev.pos (by omega) (Ev.pos (by omega) (Ev.pos (by omega) (Ev.pos (by omega) ?_))))); rw [w64 (by omega) (by omega)]; have h := ih (i + 1) (acc ++ [cutE n e]) (by omega) (by omega) (by simp; omega) (by simp; omega); rw [drop_next hdr] at h; rw [show 102 - i = (102 - (i + 1)) + 1 by omega]
   simpa [cutE] using h
theorem Cut_ev (l : List Ed) (n : Nat) (hl : l.length ≤ 9223372036854775807) : Ev (fun k => marginaliaref01_Cut.f k l (n : Int)) (cut n l) := by
 have h := Cut_loop l n hl 102 0 [] rfl (by omega) (by simp) rfl
 simpa [cut, marginaliaref01_Cut.f] using h
theorem cut_length (n : Nat) (l : List Ed) : (cut n l).length ≤ 102 := by simp [cut]; omega
/-- What Cut leaves. -/
def Fine (n : Nat) (l : List Ed) : Prop := l.length ≤ 102 ∧ ∀ e ∈ l, Ok e ∧ e.f2.size ≤ n
theorem cut_fine {n : Nat} {l : List Ed} (h : ∀ e ∈ l, ok39 e) : Fine n (cut n l) := by
 refine ⟨cut_length n l, fun e he => ?_⟩; obtain ⟨x, hx, rfl⟩ := List.mem_map.1 he; have := h x (List.mem_of_mem_take hx); refine ⟨⟨this.1, this.2.1⟩, ?_⟩; simp only [cutE, ByteArray.size_extract]
 omega

/-! ### Check -/
def sp (m : Int) : Int → List Ed → Bool
 | _, [] => true
 | p, e :: r => decide (p ≤ e.f0) && (decide (e.f0 ≤ e.f1) && (decide (e.f1 ≤ m) && sp m e.f1 r))
theorem sp_cons {m p : Int} {e : Ed} {r : List Ed} (h : sp m p (e :: r) = true) : p ≤ e.f0 ∧ e.f0 ≤ e.f1 ∧ e.f1 ≤ m ∧ sp m e.f1 r = true := by
 simpa [sp] using h
def spanSum (l : List Ed) : Int := (l.map fun e => e.f1 - e.f0).sum
def newSum (l : List Ed) : Nat := (l.map fun e => e.f2.size).sum
theorem spanSum_cons (e : Ed) (r : List Ed) : spanSum (e :: r) = (e.f1 - e.f0) + spanSum r := by simp [spanSum]
theorem newSum_cons (e : Ed) (r : List Ed) : newSum (e :: r) = e.f2.size + newSum r := by simp [newSum]
theorem span_le {m : Int} : ∀ {p : Int} {l : List Ed}, sp m p l = true → p ≤ m → 0 ≤ spanSum l ∧ spanSum l ≤ m - p
 | p, [], _, hp => by simp [spanSum]; omega
 | p, e :: r, h, hp => by
  obtain ⟨h1, h2, h3, h4⟩ := sp_cons h; have := span_le h4 h3; rw [spanSum_cons]
  omega
theorem newSum_le {n : Nat} {l : List Ed} (h : ∀ e ∈ l, Ok e ∧ e.f2.size ≤ n) : newSum l ≤ l.length * n := by
 induction l with
 | nil => simp [newSum]
 | cons e r ih =>
  have h1 := (h e (by simp)).2; have h2 := ih (fun x hx => h x (by simp [hx])); rw [newSum_cons, List.length_cons, Nat.add_mul, Nat.one_mul]
  omega
/-- Edits that are few, with News that are not long together. -/
def Fit (l : List Ed) : Prop := l.length ≤ 102 ∧ newSum l ≤ 1000000
theorem Fine.fit {n : Nat} {l : List Ed} (hf : Fine n l) (hn : n ≤ 9000) : Fit l := by
 have h1 := newSum_le hf.2; have h2 : l.length * n ≤ 102 * 9000 := Nat.mul_le_mul hf.1 hn; exact ⟨hf.1, by omega⟩
/-- The error of edits of a text of so many bytes. -/
def chk (n : Int) (l : List Ed) : Int :=
 if n > 20000 then 3 else if (l.length : Int) > 100 then 3 else if sp n 0 l = true then (if n - spanSum l + newSum l > 20000 then 7 else 0) else 2
theorem spans_loop (l : List Ed) (m : Int) (hl : l.length ≤ 9223372036854775807) : ∀ (r : List Ed) (i : Nat) (p : Int), l.drop i = r →
  Ev (fun k => rope_spans.l0 k m p l (l.length : Int) (i : Int)) (if sp m p r = true then 0 else 2) := by
 intro r
 induction r with
 | nil =>
  intro i p hd; have := le_of_nil hd; refine Ev.shift ?_; simp only [rope_spans.l0]; refine Ev.neg (by omega) ?_
  simpa [sp] using Ev.now (0 : Int)
 | cons e r ih =>
  intro i p hd; have hlt := lt_of_drop hd; refine Ev.shift ?_; simp only [rope_spans.l0]; rw [rd_at hd]; refine Ev.pos (by omega) (Ev.pos (by omega) (Ev.pos (by omega) ?_)); by_cases h1 : e.f0 < p
  ·refine Ev.pos h1 ?_; rw [if_neg (by simp [sp]; intro h; omega)]; exact Ev.now _
  refine Ev.neg h1 ?_; by_cases h2 : e.f1 < e.f0
  ·refine Ev.pos h2 ?_; rw [if_neg (by simp [sp]; intro _ h; omega)]; exact Ev.now _
  refine Ev.neg h2 ?_; by_cases h3 : e.f1 > m
  ·refine Ev.pos h3 ?_; rw [if_neg (by simp [sp]; intro _ _ h; omega)]; exact Ev.now _
  refine Ev.neg h3 ?_; rw [w64 (by omega) (by omega)]; have h := ih (i + 1) e.f1 (drop_next hd)
  have e1 : sp m p (e :: r) = sp m e.f1 r := by
   simp only [sp]; rw [decide_eq_true (by omega), decide_eq_true (by omega), decide_eq_true (by omega)]; rfl
  rw [e1]
  simpa using h
theorem spans_ev (l : List Ed) (m : Int) (hl : l.length ≤ 9223372036854775807) : Ev (fun k => rope_spans.f k m l) (if (l.length : Int) > 100 then 3 else if sp m 0 l = true then 0 else 2) := by
 unfold rope_spans.f; by_cases h : (l.length : Int) > 100
 ·rw [if_pos h]; exact Ev.pos h (Ev.now _)
 ·rw [if_neg h]; exact Ev.neg h (spans_loop l m hl l 0 0 rfl)
theorem check_l1 (l : List Ed) (hl : l.length ≤ 9223372036854775807) (hn : newSum l ≤ 1000000) : ∀ (r : List Ed) (i : Nat) (x : Int), l.drop i = r → 0 ≤ x → x ≤ 20000 → newSum r ≤ 1000000 →
  Ev (fun k => rope_check.l1 k x l (l.length : Int) (i : Int)) (if x + newSum r > 20000 then 7 else 0) := by
 intro r
 induction r with
 | nil =>
  intro i x hd hx hx2 _; have := le_of_nil hd; refine Ev.shift ?_; simp only [rope_check.l1]; refine Ev.neg (by omega) ?_; rw [if_neg (by simp [newSum]; omega)]; exact Ev.now _
 | cons e r ih =>
  intro i x hd hx hx2 hns; have hlt := lt_of_drop hd; rw [newSum_cons] at hns ⊢; refine Ev.shift ?_; simp only [rope_check.l1]; rw [rd_at hd]; refine Ev.pos (by omega) (Ev.pos (by omega) (Ev.pos (by omega) ?_)); rw [w64 (n := 20000 - x) (by omega) (by omega)]; by_cases h1 : (e.f2.size : Int) > 20000 - x
  ·rw [if_pos (by omega)]; exact Ev.pos h1 (Ev.now _)
  ·refine Ev.neg h1 ?_; rw [w64 (n := x + _) (by omega) (by omega), w64 (by omega) (by omega)]; have h := ih (i + 1) (x + e.f2.size) (drop_next hd) (by omega) (by omega) (by omega); rw [show x + (e.f2.size : Int) + (newSum r : Int) = x + ((e.f2.size + newSum r : Nat) : Int) by omega] at h
   simpa using h
theorem check_l0 (l : List Ed) (m : Int) (hm : m ≤ 20000) (hl : l.length ≤ 9223372036854775807) (hn : newSum l ≤ 1000000) : ∀ (r : List Ed) (i : Nat) (x p : Int), l.drop i = r → sp m p r = true → 0 ≤ p → p ≤ m → spanSum r ≤ x → x ≤ 20000 →
  Ev (fun k => rope_check.l0 k l x l (l.length : Int) (i : Int)) (if x - spanSum r + newSum l > 20000 then 7 else 0) := by
 intro r
 induction r with
 | nil =>
  intro i x p hd hs hp hp2 hx hx2; have := le_of_nil hd; refine Ev.shift ?_; simp only [rope_check.l0]; refine Ev.neg (by omega) ?_
  have hz : spanSum ([] : List Ed) = 0 := (by simp [spanSum])
  rw [hz] at hx ⊢; have h := check_l1 l hl hn l 0 x rfl hx hx2 hn
  simpa using h
 | cons e r ih =>
  intro i x p hd hs hp hp2 hx hx2; have hlt := lt_of_drop hd; obtain ⟨h1, h2, h3, h4⟩ := sp_cons hs; have h5 := span_le h4 h3; rw [spanSum_cons] at hx ⊢; refine Ev.shift ?_; simp only [rope_check.l0]; rw [rd_at hd]; refine Ev.pos (by omega) (Ev.pos (by omega) (Ev.pos (by omega) ?_)); rw [w64 (n := e.f0 - e.f1) (by omega) (by omega), w64 (n := x + _) (by omega) (by omega), w64 (by omega) (by omega)]; have h := ih (i + 1) (x + (e.f0 - e.f1)) e.f1 (drop_next hd) h4 (by omega) h3 (by omega) (by omega); rw [show x + (e.f0 - e.f1) - spanSum r = x - (e.f1 - e.f0 + spanSum r) by omega] at h
  simpa using h
theorem check_ev (s : ByteArray) (l : List Ed) (hs : s.size ≤ 9223372036854775807) (hf : Fit l) : Ev (fun k => rope_Check.f k s l) (chk s.size l) := by
 have hl : l.length ≤ 9223372036854775807 := (by have := hf.1; omega)
 have hns : newSum l ≤ 1000000 := hf.2; unfold rope_Check.f chk; by_cases h1 : (s.size : Int) > 20000
 ·rw [if_pos h1]; exact Ev.pos h1 (Ev.now _)
 rw [if_neg h1]; refine Ev.neg h1 (Ev.bind (a := _) ?_ (Ev.now _)); unfold rope_check.f; refine Ev.bind (spans_ev l s.size hl) ?_; by_cases h2 : (l.length : Int) > 100
 ·simp only [if_pos h2]; exact Ev.neg (by decide) (Ev.now _)
 simp only [if_neg h2]; by_cases h3 : sp s.size 0 l = true
 ·simp only [if_pos h3]; have h4 := span_le h3 (by omega); exact Ev.pos (by simp) (check_l0 l s.size (by omega) hl hns l 0 s.size 0 rfl h3 (by omega) (by omega) (by omega) (by omega))
 ·simp only [if_neg h3]; exact Ev.neg (by decide) (Ev.now _)
/-- What a check that passed says. -/
theorem chk_ok {n : Int} {l : List Ed} (h : chk n l = 0) : n ≤ 20000 ∧ l.length ≤ 100 ∧ sp n 0 l = true ∧ n - spanSum l + newSum l ≤ 20000 := by
 unfold chk at h
 split at h
 ·cases h
 split at h
 ·cases h
 split at h
 ·split at h
  ·cases h
  ·exact ⟨by omega, by omega, by assumption, by omega⟩
 ·cases h
def grow (e : Ed) : Int := (e.f2.size : Int) - (e.f1 - e.f0)
/-! ### Apply -/
def ba (l : List UInt8) : ByteArray := ⟨l.toArray⟩
def cutS (s : ByteArray) (a b : Int) : List UInt8 := (s.extract a.toNat b.toNat).data.toList
theorem ba_size (l : List UInt8) : (ba l).size = l.length := by simp [ba, ByteArray.size]
theorem ba_list (l : List UInt8) : (ba l).data.toList = l := by simp [ba]
theorem list_ba (s : ByteArray) : ba s.data.toList = s := by
 apply ByteArray.ext
 simp [ba]
theorem cutS_eq (s : ByteArray) (a b : Int) : cutS s a b = (s.data.toList.take b.toNat).drop a.toNat := by
 rw [cutS, ByteArray.data_extract, Array.toList_extract, List.extract_eq_take_drop, List.drop_take]
theorem cutS_length (s : ByteArray) (a b : Int) : (cutS s a b).length = min b.toNat s.size - a.toNat := by
 rw [cutS, Ut.size_data, ByteArray.size_extract]
def app (s : ByteArray) : Int → List Ed → List UInt8
 | p, [] => cutS s p s.size
 | p, e :: r => cutS s p e.f0 ++ e.f2.data.toList ++ app s e.f1 r
theorem app_length (s : ByteArray) : ∀ (l : List Ed) (p : Int), sp s.size p l = true → 0 ≤ p → p ≤ s.size → ((app s p l).length : Int) = s.size - p - spanSum l + newSum l
 | [], p, _, h0, h1 => by
  simp only [app, cutS_length, spanSum, newSum, List.map_nil, List.sum_nil]
  omega
 | e :: r, p, h, h0, h1 => by
  obtain ⟨h2, h3, h4, h5⟩ := sp_cons h; have := app_length s r e.f1 h5 (by omega) h4; rw [spanSum_cons, newSum_cons]; simp only [app, List.length_append, cutS_length, Ut.size_data]
  omega
theorem go_eq (s : ByteArray) : ∀ (l : List Ed) (p : Int) (acc : List UInt8), sp s.size p l = true → 0 ≤ p → p ≤ s.size → acc.length + (app s p l).length ≤ 140737488355328 → rope_Apply.go s l p acc = some (acc ++ app s p l)
 | [], p, acc, _, h0, h1, hb => by
  have e : (s.extract p.toNat s.size).data.toList = app s p [] := (by simp [app, cutS])
  have e2 : (s.extract p.toNat s.size).size = (app s p []).length := (by rw [← e, Ut.size_data])
  unfold rope_Apply.go; rw [if_pos h0, if_pos h1, e2, if_pos hb, e]
 | e :: r, p, acc, h, h0, h1, hb => by
  obtain ⟨h2, h3, h4, h5⟩ := sp_cons h; have e1 : (s.extract p.toNat e.f0.toNat).data.toList = cutS s p e.f0 := rfl
  have e2 : (s.extract p.toNat e.f0.toNat).size = (cutS s p e.f0).length := (by rw [← e1, Ut.size_data])
  simp only [app, List.length_append, Ut.size_data] at hb; unfold rope_Apply.go; rw [if_pos h0, if_pos h2, if_pos (by omega), e2, if_pos (by omega), e1, go_eq s r e.f1 _ h5 (by omega) h4 (by simp only [List.length_append, Ut.size_data]; omega)]
  simp [app]
theorem apply_ev (s : ByteArray) (l : List Ed) (hs : s.size ≤ 9223372036854775807) (hf : Fit l) : Ev (fun k => rope_Apply.f k s l) (if chk s.size l = 0 then ba (app s 0 l) else ⟨#[]⟩, chk s.size l) := by
 unfold rope_Apply.f; refine Ev.bind (check_ev s l hs hf) ?_; by_cases h : chk s.size l = 0
 ·obtain ⟨h1, h2, h3, h4⟩ := chk_ok h; have h5 := app_length s l 0 h3 (by omega) (by omega); rw [go_eq s l 0 [] h3 (by omega) (by omega) (by simp only [List.length_nil]; omega)]; simp only [if_pos h, h]; exact Ev.now _
 ·simp only [if_neg h]; exact Ev.now _
/-! ### Invert -/
def inv (s : ByteArray) : Int → List Ed → List Ed
 | _, [] => []
 | b, e :: r => ⟨e.f0 + b, e.f0 + b + e.f2.size, s.extract e.f0.toNat e.f1.toNat⟩ :: inv s (b + grow e) r
theorem inv_length (s : ByteArray) : ∀ (l : List Ed) (b : Int), (inv s b l).length = l.length
 | [], _ => rfl
 | e :: r, b => by simp [inv, inv_length s r]
theorem invert_loop (s : ByteArray) (l : List Ed) (hs : s.size ≤ 20000) (hl : l.length ≤ 102) : ∀ (r : List Ed) (i : Nat) (p b : Int) (acc : List Ed), l.drop i = r → sp s.size p r = true → 0 ≤ p → p ≤ s.size → -p ≤ b → b + newSum r ≤ 2000000 → acc.length ≤ i →
  Ev (fun k => rope_Invert.l0 k s acc b l (l.length : Int) (i : Int)) (acc ++ inv s b r, 0) := by
 intro r
 induction r with
 | nil =>
  intro i p b acc hd hsp h0 h1 hb hb2 ha; have := le_of_nil hd; refine Ev.shift ?_; simp only [rope_Invert.l0, inv, List.append_nil]; exact Ev.neg (by omega) (Ev.now _)
 | cons e r ih =>
  intro i p b acc hd hsp h0 h1 hb hb2 ha; have hlt := lt_of_drop hd; obtain ⟨h2, h3, h4, h5⟩ := sp_cons hsp; rw [newSum_cons] at hb2; refine Ev.shift ?_; simp only [rope_Invert.l0]; rw [rd_at hd]; refine Ev.pos (by omega) (Ev.pos (by omega) (Ev.pos (by omega) (Ev.pos (by omega) (Ev.pos (by omega) (Ev.pos (by omega) (Ev.pos (by omega) ?_)))))); rw [w64 (n := e.f1 - e.f0) (by omega) (by omega), w64 (n := (e.f2.size : Int) - _) (by omega) (by omega), w64 (n := b + _) (by omega) (by omega), w64 (n := (i : Int) + 1) (by omega) (by omega), w64 (n := e.f0 + b) (by omega) (by omega), w64 (by omega) (by omega)]; have h := ih (i + 1) e.f1 (b + grow e) (acc ++ [⟨e.f0 + b, e.f0 + b + e.f2.size, s.extract e.f0.toNat e.f1.toNat⟩]) (drop_next hd) h5 (by omega) h4 (by unfold grow; omega) (by unfold grow; omega) (by simp; omega)
  simpa [grow, inv] using h
theorem invert_ev (s : ByteArray) (l : List Ed) (hs : s.size ≤ 9223372036854775807) (hf : Fit l) : Ev (fun k => rope_Invert.f k s l) (if chk s.size l = 0 then inv s 0 l else [], chk s.size l) := by
 unfold rope_Invert.f; refine Ev.bind (check_ev s l hs hf) ?_; by_cases h : chk s.size l = 0
 ·obtain ⟨h1, h2, h3, h4⟩ := chk_ok h; have h5 := span_le h3 (by omega); simp only [if_pos h, h]; exact Ev.pos (by simp) (invert_loop s l (by omega) hf.1 l 0 0 0 [] rfl h3 (by omega) (by omega) (by omega) (by omega) (by simp))
 ·simp only [if_neg h]; exact Ev.now _
end Go.Proofs.Ytahcpappailjgaa.P

set_option linter.unusedVariables false
set_option linter.unusedSimpArgs false
namespace Go.Proofs.Ytahcpappailjgaa.P
open Go.RowKit Go.Proofs.YtahcpappailjgaaW.PrintWords Go.Proofs.YtahcpappailjgaaW.PrintLast Go.Proofs.YtahcpappailjgaaW.PrintMore
/-! ### bytes -/
abbrev Bs := List UInt8
theorem bt_drop {s : ByteArray} {i : Nat} {c : UInt8} {r : Bs} (h : s.data.toList.drop i = c :: r) : i < s.size ∧ bt s (i : Int) = (c.toNat : Int) := by
 have h0 : i < s.size := by
  have := congrArg List.length h; simp only [List.length_drop, List.length_cons] at this; rw [Ut.size_data] at this
  omega
 refine ⟨h0, ?_⟩; rw [← bt_at s (i : Int) h0]
 have h1 : s.data.toList[i]? = some c := by
  have := congrArg (fun x : Bs => x[0]?) h
  simpa [List.getElem?_drop] using this
 have h2 : s.data[i]? = some c := (by rw [← Array.getElem?_toList]; exact h1)
 have h3 : s.data[i]? = some (s.data[i]'h0) := Array.getElem?_eq_getElem h0; rw [h3] at h2; injection h2 with h2
 show ((s.data[i]'h0).toNat : Int) = _
 rw [h2]
theorem nil_drop {s : ByteArray} {i : Nat} (h : s.data.toList.drop i = []) : s.size ≤ i := by
 have := le_of_nil h; rw [Ut.size_data] at this; exact this
theorem ext_list (s : ByteArray) (a b : Nat) : (s.extract a b).data.toList = (s.data.toList.drop a).take (b - a) := by
 rw [ByteArray.data_extract, Array.toList_extract, List.extract_eq_take_drop]
theorem drop_cons_of_lt {s : ByteArray} {i : Nat} (h : i < s.size) : ∃ c r, s.data.toList.drop i = c :: r := by
 cases e : s.data.toList.drop i with
 | nil => have := nil_drop e; omega
 | cons c r => exact ⟨c, r, rfl⟩
def bk (c : UInt8) : Bool := c == 32 || c == 9 || c == 10 || c == 13
def lt (c : UInt8) : Bool := (decide (97 ≤ c.toNat) && decide (c.toNat ≤ 122)) || (decide (65 ≤ c.toNat) && decide (c.toNat ≤ 90)) || c == 95
def dg (c : UInt8) : Bool := decide (48 ≤ c.toNat) && decide (c.toNat ≤ 57)
def ld (c : UInt8) : Bool := lt c || dg c
theorem byte_all {P : UInt8 → Prop} [DecidablePred P] (h : ∀ n : Fin 256, P (UInt8.ofNat n.val)) (c : UInt8) : P c := by
 have := h ⟨c.toNat, UInt8.toNat_lt c⟩
 simpa using this
theorem iblank (c : UInt8) : token_isBlank.f (c.toNat : Int) = some (bk c) := byte_all (P := fun c => token_isBlank.f (c.toNat : Int) = some (bk c)) (by decide +kernel) c
theorem iletter (c : UInt8) : token_isLetter.f (c.toNat : Int) = some (lt c) := byte_all (P := fun c => token_isLetter.f (c.toNat : Int) = some (lt c)) (by decide +kernel) c
theorem idigit (c : UInt8) : token_isDigit.f (c.toNat : Int) = some (dg c) := byte_all (P := fun c => token_isDigit.f (c.toNat : Int) = some (dg c)) (by decide +kernel) c
theorem iletdig (c : UInt8) : token_good.letdig (c.toNat : Int) = some (ld c) := by
 unfold token_good.letdig ld; rw [iletter]
 show (if lt c = true then some true else token_isDigit.f (c.toNat : Int)) = _
 rw [idigit]
 cases lt c <;> rfl
/-- How many bytes at the beginning are of a sort. -/
def rn (p : UInt8 → Bool) : Bs → Nat
 | [] => 0
 | c :: r => if p c = true then rn p r + 1 else 0
theorem rn_le (p : UInt8 → Bool) : ∀ l, rn p l ≤ l.length
 | [] => Nat.le_refl _
 | c :: r => by
  rw [rn]
  split
  ·have := rn_le p r; simp only [List.length_cons]; omega
  ·omega
theorem irun {q : Int → Option Bool} {p : UInt8 → Bool} (h : ∀ c : UInt8, q (c.toNat : Int) = some (p c)) : ∀ l : Bs, token_good.run q l = some (rn p l)
 | [] => rfl
 | c :: r => by
  rw [token_good.run, h c, rn]
  show (if p c = true then (token_good.run q r).map (· + 1) else some 0) = _
  split
  ·rw [irun h r]; rfl
  ·rfl
def nl (c : UInt8) : Bool := c != 10
theorem index_rn (l : Bs) : (Lib.indexByte l 10 = -1 ∧ rn nl l = l.length) ∨ Lib.indexByte l 10 = (rn nl l : Int) := by
 induction l with
 | nil => exact .inl ⟨rfl, rfl⟩
 | cons c r ih =>
  rw [Lib.indexByte, rn]; by_cases hc : c = 10
  ·subst hc
   right
   simp [nl]
  ·have h1 : (c == 10) = false := beq_eq_false_iff_ne.2 hc
   have h2 : nl c = true := (by simp [nl, hc])
   rw [if_neg (by rw [h1]; decide), if_pos h2]
   rcases ih with ⟨e1, e2⟩ | e
   ·rw [e1]
    left
    exact ⟨by simp, by simp [e2]⟩
   ·right
    rw [e]; have : ((rn nl r : Int) == -1) = false := beq_eq_false_iff_ne.2 (by omega); rw [this]
    simp
theorem iline (s : ByteArray) : token_line.f s = some (rn nl s.data.toList : Int) := by
 unfold token_line.f strings_IndexByte.f
 show (if Lib.indexByte s.data.toList 10 ≥ 0 then _ else _) = _
 rcases index_rn s.data.toList with ⟨e1, e2⟩ | e
 ·rw [e1, if_neg (by decide), e2, Ut.size_data]
 ·have e' : Lib.indexByte s.data.toList (Int.toNat 10).toUInt8 = (rn nl s.data.toList : Int) := e; rw [e, if_pos (by omega), e']
/-! ### words and signs -/
def ws : List Bs := [[100, 101, 102], [101, 108, 115, 101], [102, 97, 108, 115, 101], [102, 110], [105, 102], [105, 109, 112, 111, 114, 116], [105, 110], [108, 101, 116], [109, 97, 116, 99, 104], [116, 104, 101, 110], [116, 114, 117, 101], [116, 121, 112, 101]]
def sg : List Bs := [[33], [38, 38], [40], [41], [42], [43], [44], [45], [45, 62], [46], [58], [59], [60], [61], [61, 61], [61, 62], [91], [93], [123], [124], [124, 124], [125]]
def chain (x : Bs) : List Bs → Option Bool
 | [] => some false
 | y :: r => if x = y then some true else chain x r
theorem chain_eq (x : Bs) : ∀ l, chain x l = some (decide (x ∈ l))
 | [] => by simp [chain]
 | y :: r => by
  rw [chain, chain_eq x r]; by_cases h : x = y
  ·simp [h]
  ·simp [h]
theorem iword (s : ByteArray) : token_isWord.f s = some (decide (s.data.toList ∈ ws)) := by
 rw [← chain_eq, ← Lib.toList_data]; rfl
theorem isign (s : ByteArray) : token_isSign.f s = some (decide (s.data.toList ∈ sg)) := by
 rw [← chain_eq, ← Lib.toList_data]; rfl
/-- The bytes of the sign at the beginning. -/
def sn (l : Bs) : Nat := if 2 ≤ l.length ∧ l.take 2 ∈ sg then 2 else if l.take 1 ∈ sg then 1 else 0
theorem isn (s : ByteArray) (h0 : 0 < s.size) (hz : s.size ≤ 1000000000) : Ev (fun k => token_sign.f k s) (sn s.data.toList : Int) := by
 have hl := Ut.size_data s; have e2 : (s.extract 0 2).data.toList = s.data.toList.take 2 := ext_list s 0 2; have e1 : (s.extract 0 1).data.toList = s.data.toList.take 1 := ext_list s 0 1
 have one : Ev (fun k => token_sign.l0 k s 1) ((if s.data.toList.take 1 ∈ sg then 1 else 0 : Nat) : Int) := by
  refine Ev.shift ?_; simp only [token_sign.l0]; refine Ev.pos (by decide) (Ev.pos (by decide) (Ev.pos (by omega) ?_)); refine Ev.bind1 (isign _) ?_; rw [show ((1 : Int)).toNat = 1 from rfl, e1]; by_cases h : s.data.toList.take 1 ∈ sg
  ·rw [if_pos h]; exact Ev.pos (decide_eq_true h) (Ev.now _)
  ·rw [if_neg h]; refine Ev.neg (by rw [decide_eq_false h]; decide) (Ev.shift ?_); simp only [token_sign.l0]; rw [w64 (n := (1 : Int) - 1) (by omega) (by omega)]; exact Ev.neg (by decide) (Ev.now _)
 unfold token_sign.f sn; by_cases h2 : 2 ≤ s.size
 ·rw [show mn 2 (s.size : Int) = 2 by unfold mn; split <;> omega]; refine Ev.shift ?_; simp only [token_sign.l0]; refine Ev.pos (by decide) (Ev.pos (by decide) (Ev.pos (by omega) ?_)); refine Ev.bind1 (isign _) ?_; rw [show ((2 : Int)).toNat = 2 from rfl, e2]; by_cases h : s.data.toList.take 2 ∈ sg
  ·rw [if_pos ⟨by omega, h⟩]; exact Ev.pos (decide_eq_true h) (Ev.now _)
  ·rw [if_neg (fun x => h x.2)]; rw [w64 (n := (2 : Int) - 1) (by omega) (by omega)]; exact Ev.neg (by rw [decide_eq_false h]; decide) one
 ·rw [show mn 2 (s.size : Int) = 1 by unfold mn; split <;> omega, if_neg (fun x => by omega)]; exact one
/-! ### quotes -/
/-- The bytes up to the closing quote. -/
def qt : Bs → Option Nat
 | [] => none
 | c :: r => if c = 34 then some 1 else if c = 10 then none else if c = 92 then (match r with | [] => none | d :: r' => if d = 110 ∨ d = 34 ∨ d = 92 then (qt r').map (· + 2) else none) else (qt r).map (· + 1)
def qe (i : Nat) : Option Nat → Int
 | none => 0
 | some n => ((i + n : Nat) : Int)
theorem qe_map (i j : Nat) (x : Option Nat) : qe i (x.map (· + j)) = qe (i + j) x := by
 cases x with
 | none => rfl
 | some n => show ((i + (n + j) : Nat) : Int) = ((i + j + n : Nat) : Int); omega
theorem qt_pos : ∀ (m : Nat) (l : Bs), l.length ≤ m → ∀ n, qt l = some n → 0 < n ∧ n ≤ l.length := by
 intro m
 induction m with
 | zero =>
  intro l hl n h; obtain rfl : l = [] := List.eq_nil_of_length_eq_zero (by omega)
  simp [qt] at h
 | succ m ih =>
  intro l hl n h
  cases l with
  | nil => simp [qt] at h
  | cons c r =>
   rw [qt.eq_def] at h; simp only at h; simp only [List.length_cons] at hl ⊢
   split at h
   ·injection h with h; omega
   ·split at h
    ·cases h
    ·split at h
     ·cases r with
      | nil => cases h
      | cons d r' =>
       simp only at h
       split at h
       ·cases e : qt r' with
        | none => rw [e] at h; cases h
        | some x =>
         rw [e, Option.map_some] at h; injection h with h; have h : x + 2 = n := h; have := ih r' (by simp only [List.length_cons] at hl; omega) x e; simp only [List.length_cons]
         omega
       ·cases h
     ·cases e : qt r with
      | none => rw [e] at h; cases h
      | some x =>
       rw [e, Option.map_some] at h; injection h with h; have h : x + 1 = n := h; have := ih r (by omega) x e
       omega
theorem byte_int (c : UInt8) (n : Nat) (hn : n < 256) : ((c.toNat : Int) = (n : Int)) ↔ c = UInt8.ofNat n := by
 constructor
 ·intro h
  have h : c.toNat = n := (by exact_mod_cast h)
  rw [← h]
  simp
 ·intro h; rw [h, UInt8.toNat_ofNat_of_lt' hn]
theorem esc (c : UInt8) : Lib.indexByte [110, 34, 92] ((c.toNat : Int)).toNat.toUInt8 < 0 ↔ ¬ (c = 110 ∨ c = 34 ∨ c = 92) :=
 byte_all (P := fun c => Lib.indexByte [110, 34, 92] ((c.toNat : Int)).toNat.toUInt8 < 0 ↔ ¬ (c = 110 ∨ c = 34 ∨ c = 92)) (by decide +kernel) c
theorem iqt (s : ByteArray) (hz : s.size ≤ 1000000000) : ∀ (m : Nat) (l : Bs) (i : Nat), l.length ≤ m → s.data.toList.drop i = l → Ev (fun k => token_quoted.l0 k s (i : Int)) (qe i (qt l)) := by
 intro m
 induction m with
 | zero =>
  intro l i hl h; obtain rfl : l = [] := List.eq_nil_of_length_eq_zero (by omega); have := nil_drop h; refine Ev.shift ?_; simp only [token_quoted.l0, qt, qe]; exact Ev.neg (by omega) (Ev.now _)
 | succ m ih =>
  intro l i hl h
  cases l with
  | nil =>
   have := nil_drop h; refine Ev.shift ?_; simp only [token_quoted.l0, qt, qe]; exact Ev.neg (by omega) (Ev.now _)
  | cons c r =>
   obtain ⟨hlt, hb⟩ := bt_drop h; simp only [List.length_cons] at hl; refine Ev.shift ?_; simp only [token_quoted.l0]; rw [hb, w64 (n := (i : Int) + 1) (by omega) (by omega), w64 (n := (i : Int) + 1 + 1) (by omega) (by omega)]; refine Ev.pos (by omega) (Ev.pos (by omega) ?_); rw [qt.eq_def]; simp only; by_cases h1 : c = 34
   ·rw [if_pos h1]; exact Ev.pos ((byte_int c 34 (by decide)).2 h1) (Ev.now _)
   ·rw [if_neg h1]; refine Ev.neg (fun x => h1 ((byte_int c 34 (by decide)).1 x)) ?_; by_cases h2 : c = 10
    ·rw [if_pos h2]; exact Ev.pos ((byte_int c 10 (by decide)).2 h2) (Ev.now _)
    ·rw [if_neg h2]; refine Ev.neg (fun x => h2 ((byte_int c 10 (by decide)).1 x)) ?_; by_cases h3 : c = 92
     ·rw [if_pos h3]; refine Ev.pos ((byte_int c 92 (by decide)).2 h3) ?_; have hr := drop_next h
      cases r with
      | nil =>
       have := nil_drop hr; exact Ev.pos (by omega) (Ev.now _)
      | cons d r' =>
       obtain ⟨hlt', hb'⟩ := bt_drop hr; have hb' : bt s ((i : Int) + 1) = (d.toNat : Int) := hb'; rw [hb']; refine Ev.neg (by omega) (Ev.pos (by omega) (Ev.pos (by omega) ?_)); refine Ev.bind1 rfl ?_; simp only; by_cases h4 : d = 110 ∨ d = 34 ∨ d = 92
       ·rw [if_pos h4, qe_map]; refine Ev.neg (fun x => (esc d).1 x h4) ?_; have := ih r' (i + 2) (by simp at hl; omega) (drop_next hr); rw [show (i : Int) + 1 + 1 = ((i + 2 : Nat) : Int) by omega]; exact this
       ·rw [if_neg h4]; exact Ev.pos ((esc d).2 h4) (Ev.now _)
     ·rw [if_neg h3, qe_map]; refine Ev.neg (fun x => h3 ((byte_int c 92 (by decide)).1 x)) ?_
      exact_mod_cast ih r (i + 1) (by omega) (drop_next h)
end Go.Proofs.Ytahcpappailjgaa.P

set_option linter.unusedVariables false
set_option linter.unusedSimpArgs false
namespace Go.Proofs.Ytahcpappailjgaa.P
open Go.RowKit Go.Proofs.YtahcpappailjgaaW.PrintWords Go.Proofs.YtahcpappailjgaaW.PrintLast Go.Proofs.YtahcpappailjgaaW.PrintMore
def qn : Option Nat → Nat
 | none => 0
 | some n => n + 1
theorem qe_qn (x : Option Nat) : qe 1 x = (qn x : Int) := by
 cases x with
 | none => rfl
 | some n => show ((1 + n : Nat) : Int) = ((n + 1 : Nat) : Int); omega
theorem qn_le (r : Bs) : qn (qt r) ≤ r.length + 1 := by
 cases e : qt r with
 | none => exact Nat.zero_le _
 | some n => have := qt_pos r.length r (Nat.le_refl _) n e; show n + 1 ≤ _; omega
/-- The token at the beginning that is not bad: its kind and its bytes; no bytes: there is none. -/
def gd : Bs → Int × Nat
 | [] => (0, 0)
 | c :: r =>
  if bk c = true then (1, rn bk (c :: r)) else
  if (c :: r).take 2 = [47, 47] then (2, rn nl (c :: r)) else
  if lt c = true then (if (c :: r).take (rn ld (c :: r)) ∈ ws then 4 else 3, rn ld (c :: r)) else
  if dg c = true then (5, rn dg (c :: r)) else
  if c = 34 then (6, qn (qt r)) else (7, sn (c :: r))
theorem gd_cons (c : UInt8) (r : Bs) : gd (c :: r) =
  if bk c = true then (1, rn bk (c :: r)) else
  if (c :: r).take 2 = [47, 47] then (2, rn nl (c :: r)) else
  if lt c = true then (if (c :: r).take (rn ld (c :: r)) ∈ ws then 4 else 3, rn ld (c :: r)) else
  if dg c = true then (5, rn dg (c :: r)) else
  if c = 34 then (6, qn (qt r)) else (7, sn (c :: r)) := rfl
theorem sn_le (c : UInt8) (r : Bs) : sn (c :: r) ≤ (c :: r).length := by
 unfold sn
 split
 ·rename_i h; exact h.1
 ·split <;> simp
theorem gd_le (l : Bs) : (gd l).2 ≤ l.length := by
 cases l with
 | nil => exact Nat.le_refl _
 | cons c r =>
  rw [gd_cons]
  (repeat' split) <;> first | exact rn_le _ _ | exact qn_le r | exact sn_le c r
theorem isize (s : ByteArray) : s.data.toList.length = s.size := Ut.size_data s
theorem fin_eq (s : ByteArray) (kind : Int) (n : Nat) (h : n ≤ s.size) : token_good.fin s kind (n : Int) = some (kind, s.extract 0 n, decide (0 < n)) := by
 unfold token_good.fin; rw [if_pos (by omega), if_pos (by omega), Int.toNat_natCast]
 congr 3
 exact decide_eq_decide.2 (by omega)
theorem remark_eq (s : ByteArray) : strings_HasPrefix.f s ⟨#[47, 47]⟩ = some (decide (s.data.toList.take 2 = [47, 47])) := by
 have e2 : (s.extract 0 2).data.toList = s.data.toList.take 2 := ext_list s 0 2; have hl := isize s; unfold strings_HasPrefix.f stringslite_HasPrefix.f; have h2 : (((⟨#[47, 47]⟩ : ByteArray).size : Nat) : Int) = 2 := rfl; rw [h2]; by_cases h : (s.size : Int) ≥ 2
 ·rw [if_pos h, if_pos (by decide), if_pos (by omega)]
  show some _ = _
  rw [show ((2 : Int)).toNat = 2 from rfl, Lib.toList_data, e2, Lib.toList_data]
  congr 1
  exact Bool.eq_iff_iff.2 (by rw [beq_iff_eq, decide_eq_true_eq])
 ·rw [if_neg h]
  show some false = _
  congr 1
  symm
  apply decide_eq_false
  intro e; have := congrArg List.length e; rw [List.length_take] at this; simp only [List.length_cons, List.length_nil] at this
  omega
theorem good_ev (s : ByteArray) (c : UInt8) (r : Bs) (hs : s.data.toList = c :: r) (hz : s.size ≤ 1000000000) : Ev (fun k => token_good.f k s) ((gd (c :: r)).1, s.extract 0 (gd (c :: r)).2, decide (0 < (gd (c :: r)).2)) := by
 have hb : 0 < s.size ∧ bt s 0 = (c.toNat : Int) := bt_drop (i := 0) hs; have hl := isize s; have hg := gd_le (c :: r); rw [← hs, hl, hs] at hg; unfold token_good.f; refine Ev.pos (by omega) (Ev.pos hb.1 ?_); rw [hb.2]; refine Ev.bind1 (iblank c) ?_; unfold gd at hg ⊢; by_cases h1 : bk c = true
 ·simp only [if_pos h1] at hg ⊢; rw [irun iblank, hs]; exact Ev.congr (fun _ => fin_eq s 1 _ hg) (Ev.now _)
 ·simp only [if_neg h1] at hg ⊢; refine Ev.bind1 (remark_eq s) ?_; rw [hs]; by_cases h2 : (c :: r).take 2 = [47, 47]
  ·simp only [if_pos h2] at hg ⊢; refine Ev.pos (decide_eq_true h2) (Ev.bind1 (iline s) ?_); rw [hs]; exact Ev.congr (fun _ => fin_eq s 2 _ hg) (Ev.now _)
  ·simp only [if_neg h2] at hg ⊢; refine Ev.neg (by rw [decide_eq_false h2]; decide) (Ev.bind1 (iletter c) ?_); by_cases h3 : lt c = true
   ·simp only [if_pos h3] at hg ⊢; rw [irun iletdig]; refine Ev.pos hg (Ev.bind1 (iword _) ?_); rw [show (s.extract 0 (rn ld (c :: r))).data.toList = (c :: r).take (rn ld (c :: r)) by rw [← hs]; exact ext_list s 0 _]; by_cases h4 : (c :: r).take (rn ld (c :: r)) ∈ ws
    ·simp only [if_pos h4, decide_eq_true h4, if_true]; exact Ev.congr (fun _ => fin_eq s 4 _ hg) (Ev.now _)
    ·simp only [if_neg h4, decide_eq_false h4]; exact Ev.congr (fun _ => fin_eq s 3 _ hg) (Ev.now _)
   ·simp only [if_neg h3] at hg ⊢; refine Ev.bind1 (idigit c) ?_; by_cases h4 : dg c = true
    ·simp only [if_pos h4] at hg ⊢; rw [irun idigit]; exact Ev.congr (fun _ => fin_eq s 5 _ hg) (Ev.now _)
    ·simp only [if_neg h4] at hg ⊢; by_cases h5 : c = 34
     ·simp only [if_pos h5] at hg ⊢; refine Ev.pos ((byte_int c 34 (by decide)).2 h5) ?_
      have hq : Ev (fun k => token_quoted.f k s) (qn (qt r) : Int) := by
       rw [← qe_qn]
       have hd : s.data.toList.drop 1 = r := (by rw [hs]; rfl)
       exact iqt s hz r.length r 1 (Nat.le_refl _) hd
      exact Ev.bind hq (Ev.congr (fun _ => fin_eq s 6 _ hg) (Ev.now _))
     ·simp only [if_neg h5] at hg ⊢; refine Ev.neg (fun x => h5 ((byte_int c 34 (by decide)).1 x)) ?_; have hq := isn s hb.1 hz; rw [hs] at hq; exact Ev.bind hq (Ev.congr (fun _ => fin_eq s 7 _ hg) (Ev.now _))
/-- How many bytes a bad token goes on. -/
def sk : Bs → Nat
 | [] => 0
 | c :: r => if c = 34 ∨ 0 < (gd (c :: r)).2 then 0 else sk r + 1
theorem sk_le : ∀ l : Bs, sk l ≤ l.length
 | [] => Nat.le_refl _
 | c :: r => by
  rw [sk]
  split
  ·omega
  ·have := sk_le r; simp only [List.length_cons]; omega
/-- The token at the beginning. -/
def nx : Bs → Int × Nat
 | [] => (0, 0)
 | c :: r => if 0 < (gd (c :: r)).2 then gd (c :: r) else if c = 34 then (8, rn nl (c :: r)) else (8, sk r + 1)
theorem nx_cons (c : UInt8) (r : Bs) : nx (c :: r) = if 0 < (gd (c :: r)).2 then gd (c :: r) else if c = 34 then (8, rn nl (c :: r)) else (8, sk r + 1) := rfl
theorem nx_pos (c : UInt8) (r : Bs) : 0 < (nx (c :: r)).2 ∧ (nx (c :: r)).2 ≤ (c :: r).length := by
 rw [nx_cons]
 split
 ·rename_i h; exact ⟨h, gd_le _⟩
 ·split
  ·rename_i h
   refine ⟨?_, rn_le _ _⟩; rw [rn, if_pos (by rw [h]; decide)]
   omega
  ·have := sk_le r; exact ⟨Nat.succ_pos _, by simp only [List.length_cons]; omega⟩
theorem ext_suf (s : ByteArray) (i : Nat) : (s.extract i s.size).data.toList = s.data.toList.drop i := by
 rw [ext_list, List.take_of_length_le]; rw [List.length_drop, isize]; exact Nat.le_refl _
theorem next_loop (s : ByteArray) (hz : s.size ≤ 1000000000) : ∀ (r : Bs) (i : Nat), s.data.toList.drop i = r → i ≤ s.size → Ev (fun k => token_next.l0 k s (i : Int)) (8, s.extract 0 (i + sk r)) := by
 intro r
 induction r with
 | nil =>
  intro i h hi; have := nil_drop h; refine Ev.shift ?_; simp only [token_next.l0]; refine Ev.neg (by omega) (Ev.shift ?_); simp only [token_next.j1, sk]; refine Ev.neg (by decide) (Ev.pos (by omega) (Ev.pos (by omega) ?_)); exact Ev.now _
 | cons c r ih =>
  intro i h hi; obtain ⟨hlt, hb⟩ := bt_drop h; refine Ev.shift ?_; simp only [token_next.l0]; refine Ev.pos (by omega) (Ev.pos (by omega) (Ev.shift ?_)); simp only [token_next.j1]; rw [hb, sk]; by_cases h1 : c = 34
  ·subst h1; have e1 : (if (34 : UInt8) = 34 ∨ 0 < (gd (34 :: r)).2 then 0 else sk r + 1) = 0 := if_pos (.inl rfl); rw [e1]; refine Ev.neg (by decide) (Ev.pos (by omega) (Ev.pos (by omega) ?_)); exact Ev.now _
  ·refine Ev.pos (by rw [bne_iff_ne]; exact fun x => h1 ((byte_int c 34 (by decide)).1 x)) (Ev.pos (by omega) (Ev.pos (by omega) ?_))
   have hs : (s.extract i s.size).data.toList = c :: r := (by rw [ext_suf, h])
   have hsz : (s.extract i s.size).size ≤ 1000000000 := (by rw [ByteArray.size_extract]; omega)
   refine Ev.bind (good_ev _ c r hs hsz) ?_; simp only; by_cases h2 : 0 < (gd (c :: r)).2
   ·rw [if_pos (.inr h2)]; refine Ev.pos (decide_eq_true h2) ?_; exact Ev.now _
   ·rw [if_neg (fun x => x.elim h1 h2), w64 (n := (i : Int) + 1) (by omega) (by omega)]; refine Ev.neg (by rw [decide_eq_false h2]; decide) ?_; have := ih (i + 1) (drop_next h) (by omega); rw [show i + 1 + sk r = i + (sk r + 1) by omega] at this
    exact_mod_cast this
theorem next_ev (s : ByteArray) (c : UInt8) (r : Bs) (hs : s.data.toList = c :: r) (hz : s.size ≤ 1000000000) : Ev (fun k => token_next.f k s) ((nx (c :: r)).1, s.extract 0 (nx (c :: r)).2) := by
 have hb : 0 < s.size ∧ bt s 0 = (c.toNat : Int) := bt_drop (i := 0) hs; have hl := isize s; unfold token_next.f; refine Ev.bind (good_ev s c r hs hz) ?_; simp only; rw [nx_cons]; by_cases h : 0 < (gd (c :: r)).2
 ·rw [if_pos h]; exact Ev.pos (decide_eq_true h) (Ev.now _)
 ·rw [if_neg h, hb.2]; refine Ev.neg (by rw [decide_eq_false h]; decide) (Ev.pos (by omega) ?_); by_cases h5 : c = 34
  ·rw [if_pos h5]; refine Ev.pos ((byte_int c 34 (by decide)).2 h5) (Ev.bind1 (iline s) ?_); have := rn_le nl s.data.toList; rw [hl] at this; rw [← hs]; refine Ev.pos (by omega) (Ev.pos (by omega) ?_); exact Ev.now _
  ·rw [if_neg h5]; refine Ev.neg (fun x => h5 ((byte_int c 34 (by decide)).1 x)) ?_; have := next_loop s hz r 1 (by rw [hs]; rfl) hb.1; rw [Nat.add_comm] at this; exact this
/-- The tokens of a string. -/
def lx : Nat → ByteArray → List S59
 | 0, _ => []
 | m + 1, s => if s.size = 0 then [] else ⟨(nx s.data.toList).1, s.extract 0 (nx s.data.toList).2⟩ :: lx m (s.extract (nx s.data.toList).2 s.size)
theorem lex_ev : ∀ (m : Nat) (s : ByteArray) (acc : List S59), s.size ≤ m → s.size ≤ 1000000000 → acc.length + s.size ≤ 1000000000 → Ev (fun k => token_Lex.l0 k s acc) (acc ++ lx m s, 0) := by
 intro m
 induction m with
 | zero =>
  intro s acc h hz ha; have h0 : s.data.toList = [] := List.eq_nil_of_length_eq_zero (by rw [isize]; omega); refine Ev.shift ?_; simp only [token_Lex.l0]; refine Ev.pos (by rw [Lib.toList_data]; exact h0) ?_; rw [lx, List.append_nil]; exact Ev.now _
 | succ m ih =>
  intro s acc h hz ha; refine Ev.shift ?_; simp only [token_Lex.l0]; by_cases h0 : s.size = 0
  ·have h0' : s.data.toList = [] := List.eq_nil_of_length_eq_zero (by rw [isize]; omega); refine Ev.pos (by rw [Lib.toList_data]; exact h0') ?_; rw [lx, if_pos h0, List.append_nil]; exact Ev.now _
  ·obtain ⟨c, r, hs⟩ := drop_cons_of_lt (s := s) (i := 0) (by omega); have hs : s.data.toList = c :: r := hs; refine Ev.neg (by rw [Lib.toList_data, hs]; exact fun e => by cases e) (Ev.bind (next_ev s c r hs hz) ?_); obtain ⟨n1, n2⟩ := nx_pos c r; rw [← hs] at n1 n2 ⊢; rw [isize] at n2; rw [lx, if_neg h0]
   have hx : (s.extract 0 (nx s.data.toList).2).size = (nx s.data.toList).2 := (by rw [ByteArray.size_extract]; omega)
   have hy : (s.extract (nx s.data.toList).2 s.size).size = s.size - (nx s.data.toList).2 := (by rw [ByteArray.size_extract]; omega)
   simp only [hx]; refine Ev.pos (by omega) (Ev.pos (by omega) (Ev.pos (by omega) ?_)); rw [Int.toNat_natCast]; have := ih (s.extract (nx s.data.toList).2 s.size) (acc ++ [⟨(nx s.data.toList).1, s.extract 0 (nx s.data.toList).2⟩]) (by omega) (by omega) (by rw [List.length_append]; simp only [List.length_cons, List.length_nil]; omega); rw [List.append_assoc] at this; exact this
end Go.Proofs.Ytahcpappailjgaa.P

set_option linter.unusedVariables false
set_option linter.unusedSimpArgs false
namespace Go.Proofs.Ytahcpappailjgaa.P
/-! ### a line feed parts tokens -/
theorem rn_nl10 (p : UInt8 → Bool) (hp : p 10 = false) : ∀ (a b : Bs), rn p (a ++ 10 :: b) = rn p a
 | [], b => by simp [rn, hp]
 | c :: a, b => by
  rw [List.cons_append, rn, rn, rn_nl10 p hp a b]
theorem rn_all (p : UInt8 → Bool) : ∀ (a b : Bs), (∀ c ∈ a, p c = true) → rn p (a ++ b) = a.length + rn p b
 | [], b, _ => by simp
 | c :: a, b, h => by
  rw [List.cons_append, rn, if_pos (h c List.mem_cons_self), rn_all p a b (fun x hx => h x (List.mem_cons_of_mem _ hx)), List.length_cons]
  omega
theorem rn_lt (p : UInt8 → Bool) : ∀ (a b : Bs), ¬ (∀ c ∈ a, p c = true) → rn p (a ++ b) = rn p a ∧ rn p a < a.length
 | [], b, h => absurd (fun c hc => by cases hc) h
 | c :: a, b, h => by
  rw [List.cons_append, rn, rn]; by_cases hc : p c = true
  ·have h' : ¬ (∀ c ∈ a, p c = true) := fun x => h (fun y hy => by
    rcases List.mem_cons.1 hy with rfl | hy
    ·exact hc
    ·exact x y hy)
   have := rn_lt p a b h'; rw [if_pos hc, if_pos hc, this.1, List.length_cons]; exact ⟨rfl, by omega⟩
  ·rw [if_neg hc, if_neg hc, List.length_cons]; exact ⟨rfl, by omega⟩
theorem qt_nl : ∀ (m : Nat) (a b : Bs), a.length ≤ m → qt (a ++ 10 :: b) = qt (a ++ [10]) ∧ ∀ n, qt (a ++ [10]) = some n → n ≤ a.length := by
 intro m
 induction m with
 | zero =>
  intro a b h; obtain rfl : a = [] := List.eq_nil_of_length_eq_zero (by omega); exact ⟨by rw [List.nil_append, List.nil_append, qt.eq_def, qt.eq_def]; rfl, by rw [List.nil_append, qt.eq_def]; intro n hn; cases hn⟩
 | succ m ih =>
  intro a b h
  cases a with
  | nil => exact ⟨by rw [List.nil_append, List.nil_append, qt.eq_def, qt.eq_def]; rfl, by rw [List.nil_append, qt.eq_def]; intro n hn; cases hn⟩
  | cons c a =>
   simp only [List.length_cons] at h; obtain ⟨i1, i2⟩ := ih a b (by omega); rw [List.cons_append, List.cons_append, qt.eq_def, qt.eq_def (c :: (a ++ [10]))]; simp only; by_cases h1 : c = 34
   ·simp [h1]
   ·by_cases h2 : c = 10
    ·simp [h2]
    ·by_cases h3 : c = 92
     ·simp only [if_neg h1, if_neg h2, if_pos h3]
      cases a with
      | nil => simp
      | cons d a =>
       simp only [List.length_cons] at h; obtain ⟨i1, i2⟩ := ih a b (by omega); simp only [List.cons_append, i1]; refine ⟨trivial, ?_⟩; intro n hn
       split at hn
       ·obtain ⟨x, hx, rfl⟩ := Option.map_eq_some_iff.1 hn; have := i2 x hx; simp only [List.length_cons]
        omega
       ·cases hn
     ·simp only [if_neg h1, if_neg h2, if_neg h3, i1]; refine ⟨trivial, ?_⟩; intro n hn; obtain ⟨x, hx, rfl⟩ := Option.map_eq_some_iff.1 hn; have := i2 x hx; simp only [List.length_cons]
      omega
theorem sg_no10 : ∀ x ∈ sg, (10 : UInt8) ∉ x := by decide
theorem take2_nl (c : UInt8) (a b : Bs) : (c :: a ++ 10 :: b).take 2 = (c :: a ++ [10]).take 2 := by
 cases a <;> rfl
theorem take1_nl (c : UInt8) (a b : Bs) : (c :: a ++ 10 :: b).take 1 = (c :: a ++ [10]).take 1 := rfl
theorem sn_nl (c : UInt8) (a b : Bs) : sn (c :: a ++ 10 :: b) = sn (c :: a ++ [10]) ∧ sn (c :: a ++ [10]) ≤ (c :: a).length := by
 unfold sn; rw [take2_nl, take1_nl]
 have l1 : 2 ≤ (c :: a ++ 10 :: b).length := (by simp; omega)
 have l2 : 2 ≤ (c :: a ++ [10]).length := (by simp)
 refine ⟨by simp only [l1, l2, true_and], ?_⟩
 split
 ·rename_i h
  cases a with
  | nil => exact absurd (by simp) (sg_no10 _ h.2)
  | cons d a => simp
 ·split <;> simp
/-- The good token at the beginning, ahead of a line feed: it is the same whatever stands behind, or it is a blank that holds the line feed. -/
theorem gd_nl (c : UInt8) (a b : Bs) : (gd (c :: a ++ 10 :: b) = gd (c :: a ++ [10]) ∧ (gd (c :: a ++ [10])).2 ≤ (c :: a).length) ∨ (∀ x ∈ c :: a, bk x = true) := by
 by_cases hb : ∀ x ∈ c :: a, bk x = true
 ·exact .inr hb
 ·refine .inl ?_; rw [List.cons_append, List.cons_append, gd_cons, gd_cons]; have e2 : ∀ b, (c :: (a ++ 10 :: b)).take 2 = (c :: a ++ [10]).take 2 := take2_nl c a; rw [e2, e2]
  have hn := fun b => rn_nl10 nl (by decide) (c :: a) b
  have hl := fun b => rn_nl10 ld (by decide) (c :: a) b
  have hd := fun b => rn_nl10 dg (by decide) (c :: a) b
  have hk := fun b => rn_lt bk (c :: a) (10 :: b) hb
  simp only [List.cons_append] at hn hl hd hk; rw [(hk b).1, (hk []).1, hn b, hn [], hl b, hl [], hd b, hd []]; by_cases h1 : bk c = true
  ·simp only [if_pos h1]; exact ⟨trivial, by have := (hk b).2; omega⟩
  ·simp only [if_neg h1]; by_cases h2 : (c :: a ++ [10]).take 2 = [47, 47]
   ·simp only [if_pos h2]; exact ⟨trivial, rn_le _ _⟩
   ·simp only [if_neg h2]; by_cases h3 : lt c = true
    ·simp only [if_pos h3]
     have ht : ∀ b, (c :: (a ++ 10 :: b)).take (rn ld (c :: a)) = (c :: a).take (rn ld (c :: a)) := fun b => by
      rw [show c :: (a ++ 10 :: b) = (c :: a) ++ 10 :: b from rfl, List.take_append_of_le_length (rn_le _ _)]
     rw [ht b, ht []]; exact ⟨rfl, rn_le _ _⟩
    ·simp only [if_neg h3]; by_cases h4 : dg c = true
     ·simp only [if_pos h4]; exact ⟨trivial, rn_le _ _⟩
     ·simp only [if_neg h4]; by_cases h5 : c = 34
      ·simp only [if_pos h5]; obtain ⟨q1, q2⟩ := qt_nl a.length a b (Nat.le_refl _); rw [q1]; refine ⟨rfl, ?_⟩
       cases e : qt (a ++ [10]) with
       | none => exact Nat.zero_le _
       | some n => have := q2 n e; simp only [qn, List.length_cons]; omega
      ·simp only [if_neg h5]; have := sn_nl c a b; simp only [List.cons_append] at this; rw [this.1]; exact ⟨rfl, this.2⟩
theorem gd_bk (c : UInt8) (r : Bs) (h : bk c = true) : gd (c :: r) = (1, rn bk r + 1) := by
 rw [gd_cons, if_pos h, rn, if_pos h]
theorem sk_nl : ∀ (a b : Bs), sk (a ++ 10 :: b) = sk (a ++ [10]) ∧ sk (a ++ [10]) ≤ a.length
 | [], b => by
  have h : ∀ r, sk (10 :: r) = 0 := fun r => by
   rw [sk, gd_bk 10 r (by decide), if_pos (.inr (Nat.succ_pos _))]
  exact ⟨by rw [List.nil_append, List.nil_append, h, h], by rw [List.nil_append, h]; exact Nat.le_refl _⟩
 | c :: a, b => by
  obtain ⟨i1, i2⟩ := sk_nl a b; rw [List.cons_append, List.cons_append, sk, sk, i1]
  have hg : (0 < (gd (c :: (a ++ 10 :: b))).2) ↔ (0 < (gd (c :: (a ++ [10]))).2) := by
   rcases gd_nl c a b with h | h
   ·have h1 : gd (c :: (a ++ 10 :: b)) = gd (c :: (a ++ [10])) := h.1; rw [h1]
   ·have hc := h c List.mem_cons_self; rw [gd_bk c _ hc, gd_bk c _ hc]; exact ⟨fun _ => Nat.succ_pos _, fun _ => Nat.succ_pos _⟩
  by_cases h : c = 34 ∨ 0 < (gd (c :: (a ++ [10]))).2
  ·rw [if_pos h, if_pos (h.imp id hg.2)]; exact ⟨rfl, Nat.zero_le _⟩
  ·rw [if_neg h, if_neg (fun x => h (x.imp id hg.1)), List.length_cons]; exact ⟨rfl, by omega⟩
/-- The token at the beginning, ahead of a line feed. -/
theorem nx_nl (c : UInt8) (a b : Bs) : (nx (c :: a ++ 10 :: b) = nx (c :: a ++ [10]) ∧ (nx (c :: a ++ [10])).2 ≤ (c :: a).length) ∨ (∀ x ∈ c :: a, bk x = true) := by
 rcases gd_nl c a b with ⟨h1, h2⟩ | h
 ·refine .inl ?_; rw [List.cons_append, List.cons_append] at *; rw [nx_cons, nx_cons, h1]
  split
  ·exact ⟨rfl, h2⟩
  ·split
   ·have hn := fun b => rn_nl10 nl (by decide) (c :: a) b
    simp only [List.cons_append] at hn; rw [hn b, hn []]; exact ⟨rfl, rn_le _ _⟩
   ·obtain ⟨i1, i2⟩ := sk_nl a b; rw [i1]; exact ⟨rfl, by simp only [List.length_cons]; omega⟩
 ·exact .inr h
theorem nx_bk (c : UInt8) (r : Bs) (h : bk c = true) : nx (c :: r) = (1, rn bk r + 1) := by
 rw [nx_cons, gd_bk c r h, if_pos (Nat.succ_pos _)]
/-- A blank that holds the line feed. -/
theorem nx_blank (a b : Bs) (h : ∀ x ∈ a, bk x = true) : nx (a ++ 10 :: b) = (1, a.length + 1 + rn bk b) := by
 cases a with
 | nil => rw [List.nil_append, nx_bk 10 b (by decide), List.length_nil]; congr 1; omega
 | cons c a =>
  rw [List.cons_append, nx_bk c _ (h c List.mem_cons_self), rn_all bk a _ (fun x hx => h x (List.mem_cons_of_mem _ hx)), rn, if_pos (by decide), List.length_cons]
  congr 1
  omega
/-! ### all tokens -/
abbrev Tk := Int × Bs
def lxb : Nat → Bs → List Tk
 | 0, _ => []
 | m + 1, [] => []
 | m + 1, c :: r => ((nx (c :: r)).1, (c :: r).take (nx (c :: r)).2) :: lxb m ((c :: r).drop (nx (c :: r)).2)
theorem lxb_nil (m : Nat) : lxb m [] = [] := by cases m <;> rfl
theorem lxb_more : ∀ (m : Nat) (l : Bs), l.length ≤ m → ∀ k, lxb (m + k) l = lxb m l := by
 intro m
 induction m with
 | zero =>
  intro l h k; obtain rfl : l = [] := List.eq_nil_of_length_eq_zero (by omega); rw [lxb_nil, lxb_nil]
 | succ m ih =>
  intro l h k
  cases l with
  | nil => rw [lxb_nil, lxb_nil]
  | cons c r =>
   rw [show m + 1 + k = (m + k) + 1 by omega, lxb, lxb, ih _ (by have := nx_pos c r; rw [List.length_drop]; simp only [List.length_cons] at *; omega)]
/-- The tokens of a string. -/
def lex (l : Bs) : List Tk := lxb l.length l
theorem lxb_lex (m : Nat) (l : Bs) (h : l.length ≤ m) : lxb m l = lex l := by
 rw [show m = l.length + (m - l.length) by omega, lxb_more _ _ (Nat.le_refl _)]; rfl
theorem lex_nil : lex [] = [] := rfl
theorem lex_cons (c : UInt8) (r : Bs) : lex (c :: r) = ((nx (c :: r)).1, (c :: r).take (nx (c :: r)).2) :: lex ((c :: r).drop (nx (c :: r)).2) := by
 show lxb (r.length + 1) (c :: r) = _
 rw [lxb, lxb_lex]; have := nx_pos c r; rw [List.length_drop]; simp only [List.length_cons] at *
 omega
theorem lex_of_ne (l : Bs) (h : l ≠ []) : lex l = ((nx l).1, l.take (nx l).2) :: lex (l.drop (nx l).2) := by
 cases l with
 | nil => exact absurd rfl h
 | cons c r => exact lex_cons c r
def cat (l : List Tk) : Bs := (l.map (·.2)).flatten
theorem cat_cons (t : Tk) (l : List Tk) : cat (t :: l) = t.2 ++ cat l := rfl
theorem cat_lex : ∀ (m : Nat) (l : Bs), l.length ≤ m → cat (lex l) = l := by
 intro m
 induction m with
 | zero =>
  intro l h; obtain rfl : l = [] := List.eq_nil_of_length_eq_zero (by omega); rfl
 | succ m ih =>
  intro l h
  cases l with
  | nil => rfl
  | cons c r =>
   rw [lex_cons, cat_cons, ih _ (by have := nx_pos c r; rw [List.length_drop]; simp only [List.length_cons] at *; omega), List.take_append_drop]
theorem lex_pos (l : Bs) : ∀ t ∈ lex l, t.2 ≠ [] := by
 have : ∀ (m : Nat) (l : Bs), l.length ≤ m → ∀ t ∈ lex l, t.2 ≠ [] := by
  intro m
  induction m with
  | zero =>
   intro l h t ht; obtain rfl : l = [] := List.eq_nil_of_length_eq_zero (by omega)
   cases ht
  | succ m ih =>
   intro l h t ht
   cases l with
   | nil => cases ht
   | cons c r =>
    have h0 := nx_pos c r; rw [lex_cons] at ht
    rcases List.mem_cons.1 ht with rfl | ht
    ·intro e; have e : (c :: r).take (nx (c :: r)).2 = [] := e; have := congrArg List.length e; rw [List.length_take] at this; simp only [List.length_cons, List.length_nil] at *
     omega
    ·exact ih _ (by rw [List.length_drop]; simp only [List.length_cons] at *; omega) t ht
 exact this l.length l (Nat.le_refl _)
theorem take_app {α : Type} {n : Nat} {a : List α} (b : List α) (h : n ≤ a.length) : (a ++ b).take n = a.take n := List.take_append_of_le_length h
theorem drop_app {α : Type} {n : Nat} {a : List α} (b : List α) (h : n ≤ a.length) : (a ++ b).drop n = a.drop n ++ b := List.drop_append_of_le_length h
/-- Behind a line feed's blank: the tokens are those of the two parts. -/
theorem lex_behind : ∀ (m : Nat) (a s y : Bs), a.length ≤ m → (∀ x ∈ s, bk x = true) → (∀ c r, y = c :: r → bk c = false) → lex (a ++ 10 :: (s ++ y)) = lex (a ++ 10 :: s) ++ lex y := by
 intro m
 induction m with
 | zero =>
  intro a s y h hs hy; obtain rfl : a = [] := List.eq_nil_of_length_eq_zero (by omega)
  have hy0 : rn bk y = 0 := by
   cases y with
   | nil => rfl
   | cons c r => rw [rn, if_neg (by rw [hy c r rfl]; decide)]
  have e1 := nx_blank [] (s ++ y) (fun x hx => by cases hx); have e2 := nx_blank [] s (fun x hx => by cases hx); rw [rn_all bk s y hs, hy0] at e1
  have e3 : rn bk s = s.length := (by have := rn_all bk s [] hs; rw [List.append_nil] at this; rw [this]; rfl)
  rw [e3] at e2; rw [lex_of_ne ([] ++ 10 :: (s ++ y)) (by simp), lex_of_ne ([] ++ 10 :: s) (by simp), e1, e2]; simp only [List.length_nil, List.nil_append, List.cons_append]
  have t1 : (10 :: (s ++ y)).take (0 + 1 + (s.length + 0)) = 10 :: s := by
   rw [show 10 :: (s ++ y) = (10 :: s) ++ y from rfl]; exact List.take_left' (by simp; omega)
  have t2 : (10 :: s).take (0 + 1 + s.length) = 10 :: s := List.take_of_length_le (by simp; omega)
  have d1 : (10 :: (s ++ y)).drop (0 + 1 + (s.length + 0)) = y := by
   rw [show 10 :: (s ++ y) = (10 :: s) ++ y from rfl]; exact List.drop_left' (by simp; omega)
  have d2 : (10 :: s).drop (0 + 1 + s.length) = [] := List.drop_of_length_le (by simp; omega); rw [t1, t2, d1, d2, lex_nil, List.nil_append]
 | succ m ih =>
  intro a s y h hs hy
  cases a with
  | nil => exact ih [] s y (Nat.zero_le _) hs hy
  | cons c a =>
   simp only [List.length_cons] at h; by_cases hb : ∀ x ∈ c :: a, bk x = true
   ·have hy0 : rn bk y = 0 := by
     cases y with
     | nil => rfl
     | cons c r => rw [rn, if_neg (by rw [hy c r rfl]; decide)]
    have e1 := nx_blank (c :: a) (s ++ y) hb; have e2 := nx_blank (c :: a) s hb; rw [rn_all bk s y hs, hy0] at e1
    have e3 : rn bk s = s.length := (by have := rn_all bk s [] hs; rw [List.append_nil] at this; rw [this]; rfl)
    rw [e3] at e2; rw [lex_of_ne (c :: a ++ 10 :: (s ++ y)) (by simp), lex_of_ne (c :: a ++ 10 :: s) (by simp), e1, e2]
    have t0 : c :: a ++ 10 :: (s ++ y) = (c :: a ++ 10 :: s) ++ y := (by simp)
    have t1 : (c :: a ++ 10 :: (s ++ y)).take ((c :: a).length + 1 + (s.length + 0)) = c :: a ++ 10 :: s := by
     rw [t0]; exact List.take_left' (by simp; omega)
    have t2 : (c :: a ++ 10 :: s).take ((c :: a).length + 1 + s.length) = c :: a ++ 10 :: s := List.take_of_length_le (by simp; omega)
    have d1 : (c :: a ++ 10 :: (s ++ y)).drop ((c :: a).length + 1 + (s.length + 0)) = y := by
     rw [t0]; exact List.drop_left' (by simp; omega)
    have d2 : (c :: a ++ 10 :: s).drop ((c :: a).length + 1 + s.length) = [] := List.drop_of_length_le (by simp; omega); dsimp only; rw [t1, t2, d1, d2, lex_nil]; rfl
   ·have n1 := (nx_nl c a (s ++ y)).resolve_right hb; have n2 := (nx_nl c a s).resolve_right hb; have hp := nx_pos c (a ++ [10]); rw [lex_of_ne (c :: a ++ 10 :: (s ++ y)) (by simp), lex_of_ne (c :: a ++ 10 :: s) (by simp), n1.1, n2.1]; rw [take_app _ n1.2, take_app _ n1.2, drop_app _ n1.2, drop_app _ n1.2]; have hp : 0 < (nx (c :: a ++ [10])).2 := hp.1; rw [ih _ s y (by rw [List.length_drop]; simp only [List.length_cons]; omega) hs hy]; rfl
/-- Ahead of a line feed's blank: tokens that end ahead of it stay, whatever stands behind it. -/
theorem lex_ahead : ∀ (u : List Tk) (d z z' : Bs) (v : List Tk), (∀ x ∈ d, bk x = true) → lex (cat u ++ (d ++ 10 :: z)) = u ++ v → lex (cat u ++ (d ++ 10 :: z')) = u ++ lex (d ++ 10 :: z')
 | [], d, z, z', v, _, _ => rfl
 | t :: u, d, z, z', v, hd, h => by
  have hne : t.2 ≠ [] := lex_pos (cat (t :: u) ++ (d ++ 10 :: z)) t (by rw [h]; exact List.mem_cons_self); obtain ⟨k, w⟩ := t
  cases w with
  | nil => exact absurd rfl hne
  | cons c w =>
   rw [cat_cons] at h ⊢; simp only [List.append_assoc] at h ⊢
   have hlt : (nx ((c :: w) ++ (cat u ++ (d ++ 10 :: z)))).2 = (c :: w).length := by
    have e := lex_of_ne ((c :: w) ++ (cat u ++ (d ++ 10 :: z))) (by simp); rw [h] at e; rw [List.cons_append] at e; injection e with e1 e2; have e3 := congrArg List.length (congrArg Prod.snd e1); simp only [List.length_take] at e3; have := nx_pos c (w ++ (cat u ++ (d ++ 10 :: z))); simp only [List.cons_append] at this e3 ⊢
    omega
   have key : ∀ z, (c :: w) ++ (cat u ++ (d ++ 10 :: z)) = c :: (w ++ cat u ++ d) ++ 10 :: z := fun z => by simp
   have hnb : ¬ (∀ x ∈ c :: (w ++ cat u ++ d), bk x = true) := by
    intro hb; have := nx_blank _ z hb; rw [← key] at this; rw [this] at hlt; simp only [List.length_cons, List.length_append] at hlt
    omega
   have n1 := (nx_nl c (w ++ cat u ++ d) z).resolve_right hnb; have n2 := (nx_nl c (w ++ cat u ++ d) z').resolve_right hnb
   have hnx : nx ((c :: w) ++ (cat u ++ (d ++ 10 :: z'))) = nx ((c :: w) ++ (cat u ++ (d ++ 10 :: z))) := by
    rw [key, key, n1.1, n2.1]
   have e := lex_of_ne ((c :: w) ++ (cat u ++ (d ++ 10 :: z))) (by simp); rw [h, hlt, List.take_left' rfl, List.drop_left' rfl, List.cons_append] at e; injection e with e1 e2; have ih := lex_ahead u d z z' v hd e2.symm; rw [lex_of_ne ((c :: w) ++ (cat u ++ (d ++ 10 :: z'))) (by simp), hnx, hlt, List.take_left' rfl, List.drop_left' rfl, ih, e1]; rfl
/-- A token with a line feed is a blank, and the longest one. -/
theorem nx_has (l : Bs) (h : (10 : UInt8) ∈ l.take (nx l).2) : (∀ x ∈ l.take (nx l).2, bk x = true) ∧ (∀ c r, l.drop (nx l).2 = c :: r → bk c = false) := by
 obtain ⟨a, b, hab, hna⟩ : ∃ a b, l = a ++ 10 :: b ∧ (10 : UInt8) ∉ a := by
  obtain ⟨a, b, e, hn⟩ := List.append_of_mem (List.mem_of_mem_take h) |> fun ⟨a, b, e⟩ => (List.eq_append_cons_of_mem (List.mem_of_mem_take h))
  exact ⟨a, b, e, hn⟩
 subst hab
 have key : ∀ x ∈ a, bk x = true := by
  cases a with
  | nil => intro x hx; cases hx
  | cons c a =>
   rcases nx_nl c a b with ⟨h1, h2⟩ | hb
   ·exfalso
    rw [h1, take_app _ h2] at h; exact hna (List.mem_of_mem_take h)
   ·exact hb
 have e := nx_blank a b key; rw [e]; dsimp only
 have hr : ∀ b : Bs, (∀ x ∈ b.take (rn bk b), bk x = true) ∧ (∀ c r, b.drop (rn bk b) = c :: r → bk c = false) := by
  intro b
  induction b with
  | nil => exact ⟨fun x hx => by simp at hx, fun c r h => by simp at h⟩
  | cons y b ih =>
   rw [rn]; by_cases hy : bk y = true
   ·rw [if_pos hy]; refine ⟨fun x hx => ?_, fun c r h => ?_⟩
    ·rw [List.take_succ_cons] at hx
     rcases List.mem_cons.1 hx with rfl | hx
     ·exact hy
     ·exact ih.1 x hx
    ·rw [List.drop_succ_cons] at h; exact ih.2 c r h
   ·rw [if_neg hy]; refine ⟨fun x hx => by simp at hx, fun c r h => ?_⟩; rw [List.drop_zero] at h; injection h with h _; rw [← h]
    simpa using hy
 have t1 : (a ++ 10 :: b).take (a.length + 1 + rn bk b) = a ++ 10 :: b.take (rn bk b) := by
  rw [show a.length + 1 + rn bk b = a.length + (rn bk b + 1) by omega, List.take_length_add_append, List.take_succ_cons]
 have t2 : (a ++ 10 :: b).drop (a.length + 1 + rn bk b) = b.drop (rn bk b) := by
  rw [show a.length + 1 + rn bk b = a.length + (rn bk b + 1) by omega, List.drop_length_add_append, List.drop_succ_cons]
 rw [t1, t2]; refine ⟨fun x hx => ?_, (hr b).2⟩
 rcases List.mem_append.1 hx with hx | hx
 ·exact key x hx
 ·rcases List.mem_cons.1 hx with rfl | hx
  ·decide
  ·exact (hr b).1 x hx
/-- The tokens behind a part of the tokens. -/
theorem lex_tail : ∀ (u : List Tk) (T : Bs) (v : List Tk), lex T = u ++ v → T = cat u ++ cat v ∧ lex (cat v) = v
 | [], T, v, h => by
  have h : lex T = v := h; have e := cat_lex T.length T (Nat.le_refl _); rw [← h]; rw [e]; exact ⟨rfl, rfl⟩
 | t :: u, T, v, h => by
  cases T with
  | nil => cases h
  | cons c r =>
   rw [lex_cons, List.cons_append] at h; injection h with h1 h2; obtain ⟨i1, i2⟩ := lex_tail u _ v h2; refine ⟨?_, i2⟩; rw [cat_cons, List.append_assoc, ← i1, ← h1]; exact (List.take_append_drop _ _).symm
/-- A token with a line feed, among all. -/
theorem lex_has (u : List Tk) (T : Bs) (t : Tk) (v : List Tk) (h : lex T = u ++ t :: v) (hm : (10 : UInt8) ∈ t.2) : (∀ x ∈ t.2, bk x = true) ∧ (∀ c r, cat v = c :: r → bk c = false) := by
 obtain ⟨h1, h2⟩ := lex_tail u T (t :: v) h
 have hne : cat (t :: v) ≠ [] := by
  intro e; rw [e] at h2
  cases h2
 have e := lex_of_ne _ hne; rw [h2] at e; injection e with e1 e2; have e3 : t.2 = (cat (t :: v)).take (nx (cat (t :: v))).2 := congrArg Prod.snd e1
 have e4 : cat v = (cat (t :: v)).drop (nx (cat (t :: v))).2 := by
  have := cat_lex _ ((cat (t :: v)).drop (nx (cat (t :: v))).2) (Nat.le_refl _); rw [← e2] at this; exact this
 rw [e3] at hm ⊢; rw [e4]; exact nx_has _ hm
def Front (P : Bs) (u : List Tk) : Prop := (cat u).length ≤ P.length ∧ ∀ W, lex (P ++ W) = u ++ lex ((P ++ W).drop (cat u).length)
def Back (Q : Bs) (v : List Tk) : Prop := (cat v).length ≤ Q.length ∧ ∀ X, lex (X ++ Q) = lex ((X ++ Q).take ((X ++ Q).length - (cat v).length)) ++ v
theorem front_nil (P : Bs) : Front P [] := ⟨Nat.zero_le _, fun W => rfl⟩
theorem back_nil (Q : Bs) : Back Q [] := ⟨Nat.zero_le _, fun X => by
 show _ = lex ((X ++ Q).take ((X ++ Q).length - 0)) ++ []
 rw [Nat.sub_zero, List.take_length, List.append_nil]⟩
theorem front_back {P Q : Bs} {u v : List Tk} (hP : Front P u) (hQ : Back Q v) (M : Bs) :
  lex (P ++ (M ++ Q)) = u ++ (lex (((P ++ (M ++ Q)).take ((P ++ (M ++ Q)).length - (cat v).length)).drop (cat u).length) ++ v) := by
 rw [hP.2, drop_app _ hP.1, show P.drop (cat u).length ++ (M ++ Q) = (P.drop (cat u).length ++ M) ++ Q by rw [List.append_assoc], hQ.2]
 congr 3
 rw [List.drop_take]; rw [show P ++ (M ++ Q) = (P ++ M) ++ Q by rw [List.append_assoc], drop_app _ (by have := hP.1; simp; omega), drop_app _ hP.1]
 congr 1
 have := hP.1; have := hQ.1; simp only [List.length_append, List.length_drop]
 omega
theorem mid_split {u x y P Z : Bs} (h : u ++ (x ++ y) = P ++ 10 :: Z) (h1 : u.length ≤ P.length) (h2 : P.length < u.length + x.length) : ∃ d s, P = u ++ d ∧ x = d ++ 10 :: s ∧ Z = s ++ y := by
 have e1 : P.take u.length = u := by
  have := congrArg (List.take u.length) h; rw [List.take_left' rfl, take_app _ h1] at this; exact this.symm
 obtain ⟨d, rfl⟩ : ∃ d, P = u ++ d := ⟨P.drop u.length, by rw [← e1, List.length_take, Nat.min_eq_left h1, List.take_append_drop]⟩
 rw [List.append_assoc] at h; have h := List.append_cancel_left h; rw [List.length_append] at h2
 have e2 : x.take d.length = d := by
  have := congrArg (List.take d.length) h; rw [List.take_left' rfl, take_app _ (by omega)] at this; exact this
 obtain ⟨q, hq⟩ : ∃ q, x = d ++ q := ⟨x.drop d.length, by
  have h3 : d.length ≤ x.length := (by omega)
  conv => rhs; lhs; rw [← e2]
  rw [List.take_append_drop]⟩
 subst hq; rw [List.append_assoc] at h; have h := List.append_cancel_left h
 cases q with
 | nil => simp at h2
 | cons c s =>
  rw [List.cons_append] at h; injection h with h3 h4; subst h3; exact ⟨d, s, rfl, rfl, h4.symm⟩
theorem front_of {T P Z : Bs} {u v : List Tk} {t : Tk} (hs : lex T = u ++ t :: v) (hT : T = P ++ 10 :: Z) (h1 : (cat u).length ≤ P.length) (h2 : P.length < (cat u).length + t.2.length) (P2 : Bs) : Front (P ++ 10 :: P2) u := by
 obtain ⟨e, _⟩ := lex_tail _ T _ hs; rw [cat_cons] at e; obtain ⟨d, s, rfl, hx, hZ⟩ := mid_split (e.symm.trans hT) h1 h2; obtain ⟨hb, _⟩ := lex_has _ T _ _ hs (by rw [hx]; simp); rw [hx] at hb
 have hd : ∀ x ∈ d, bk x = true := fun x hx => hb x (List.mem_append_left _ hx)
 refine ⟨by simp, fun W => ?_⟩; rw [hT, List.append_assoc] at hs; have := lex_ahead u d Z (P2 ++ W) (t :: v) hd hs; rw [show cat u ++ d ++ 10 :: P2 ++ W = cat u ++ (d ++ 10 :: (P2 ++ W)) by simp, this, List.drop_left' rfl]
theorem back_of {T P Z : Bs} {u v : List Tk} {t : Tk} (hs : lex T = u ++ t :: v) (hT : T = P ++ 10 :: Z) (h1 : (cat u).length ≤ P.length) (h2 : P.length < (cat u).length + t.2.length) (P2 : Bs) : Back (P2 ++ 10 :: Z) v := by
 obtain ⟨e, _⟩ := lex_tail _ T _ hs; have hv : lex (cat v) = v := (lex_tail (u ++ [t]) T v (by rw [hs]; simp)).2; rw [cat_cons] at e; obtain ⟨d, s, rfl, hx, hZ⟩ := mid_split (e.symm.trans hT) h1 h2; obtain ⟨hb, hm⟩ := lex_has _ T _ _ hs (by rw [hx]; simp); rw [hx] at hb
 have hd : ∀ x ∈ s, bk x = true := fun x hx => hb x (List.mem_append_right _ (List.mem_cons_of_mem _ hx))
 subst hZ; refine ⟨by simp; omega, fun X => ?_⟩; have := lex_behind (X ++ P2).length (X ++ P2) s (cat v) (Nat.le_refl _) hd hm; rw [hv] at this; rw [show X ++ (P2 ++ 10 :: (s ++ cat v)) = X ++ P2 ++ 10 :: (s ++ cat v) by simp, this]
 congr 2
 rw [show X ++ P2 ++ 10 :: (s ++ cat v) = (X ++ P2 ++ 10 :: s) ++ cat v by simp, List.take_left']; simp only [List.length_append]
 omega
end Go.Proofs.Ytahcpappailjgaa.P

set_option linter.unusedVariables false
set_option linter.unusedSimpArgs false
namespace Go.Proofs.Ytahcpappailjgaa.P
open Go.RowKit Go.Proofs.YtahcpappailjgaaW.PrintWords Go.Proofs.YtahcpappailjgaaW.PrintLast Go.Proofs.YtahcpappailjgaaW.PrintMore
abbrev Tn := S59
instance : DecidableEq Tn := fun a b =>
 if h : a.f0 = b.f0 ∧ a.f1 = b.f1 then isTrue (by cases a; cases b; simp only at h; rw [h.1, h.2]) else isFalse (fun e => h (by rw [e]; exact ⟨rfl, rfl⟩))
def mkS (t : Tk) : Tn := ⟨t.1, ba t.2⟩
def unS (t : Tn) : Tk := (t.f0, t.f1.data.toList)
theorem mk_un (t : Tn) : mkS (unS t) = t := by
 cases t with
 | mk a b => simp only [mkS, unS, list_ba]
theorem un_mk (t : Tk) : unS (mkS t) = t := by
 simp only [mkS, unS, ba_list]
theorem ba_eq {s : ByteArray} {l : Bs} (h : s.data.toList = l) : s = ba l := by rw [← h, list_ba]
theorem ext_ba (s : ByteArray) (a b : Nat) : s.extract a b = ba ((s.data.toList.drop a).take (b - a)) := ba_eq (ext_list s a b)
def lexS (s : Bs) : List Tn := (lex s).map mkS
theorem lx_lex : ∀ (m : Nat) (s : ByteArray), s.size ≤ m → lx m s = lexS s.data.toList := by
 intro m
 induction m with
 | zero =>
  intro s h; have h0 : s.data.toList = [] := List.eq_nil_of_length_eq_zero (by rw [isize]; omega); rw [lx, h0]; rfl
 | succ m ih =>
  intro s h; rw [lx]; by_cases h0 : s.size = 0
  ·have h0' : s.data.toList = [] := List.eq_nil_of_length_eq_zero (by rw [isize]; omega); rw [if_pos h0, h0']; rfl
  ·obtain ⟨c, r, hs⟩ := drop_cons_of_lt (s := s) (i := 0) (by omega); have hs : s.data.toList = c :: r := hs; obtain ⟨n1, n2⟩ := nx_pos c r; rw [← hs] at n1 n2; rw [if_neg h0, ih _ (by rw [ByteArray.size_extract]; omega), ext_suf, ext_ba]; rw [lexS, lexS, lex_of_ne s.data.toList (by rw [hs]; simp), List.map_cons]
   congr 1
theorem Lex_ev (s : ByteArray) (hz : s.size ≤ 1000000000) : Ev (fun k => token_Lex.f k s) (if (s.size : Int) > 20000 then ([], 3) else (lexS s.data.toList, 0)) := by
 unfold token_Lex.f; by_cases h : (s.size : Int) > 20000
 ·rw [if_pos h]; exact Ev.pos h (Ev.now _)
 ·rw [if_neg h]; have := lex_ev s.size s [] (Nat.le_refl _) hz (by simpa using hz); rw [lx_lex _ _ (Nat.le_refl _), List.nil_append] at this; exact Ev.neg h this
/-! ### Same -/
theorem rd_tn {l : List Tn} {i : Nat} {e : Tn} {r : List Tn} (h : l.drop i = e :: r) : rd_T59 l (i : Int) = e := by
 have h1 : l[i]? = some e := by
  have := congrArg (fun x : List Tn => x[0]?) h
  simpa [List.getElem?_drop] using this
 simp [rd_T59, List.getD_eq_getElem?_getD, h1]
theorem str_eq {s t : ByteArray} : (s.toList == t.toList) = decide (s = t) := by
 have h : (s.toList = t.toList) ↔ s = t := by
  constructor
  ·intro h; rw [Lib.toList_data, Lib.toList_data] at h; rw [← list_ba s, h, list_ba]
  ·intro h; rw [h]
 by_cases e : s = t
 ·rw [e]; simp
 ·rw [decide_eq_false e, beq_eq_false_iff_ne]
  exact fun x => e (h.1 x)
theorem tn_ne (e e' : Tn) : ((!(e.f0 == e'.f0) || (!(e.f1.toList == e'.f1.toList))) = true) ↔ ¬ e = e' := by
 rw [str_eq]
 cases e with
 | mk a b =>
  cases e' with
  | mk c d =>
   simp only [S59.mk.injEq, not_and, Bool.or_eq_true, Bool.not_eq_true', beq_eq_false_iff_ne, decide_eq_false_iff_not]; by_cases h : a = c
   ·simp [h]
   ·simp [h]
theorem rsame_loop (a b : List Tn) (hab : a.length = b.length) (hl : a.length ≤ 1000000000) : ∀ (r q : List Tn) (i : Nat), a.drop i = r → b.drop i = q → Ev (fun k => marginaliaref03_Same.l0 k a b (i : Int)) (decide (r = q)) := by
 intro r
 induction r with
 | nil =>
  intro q i h h'; have := le_of_nil h
  have hq : q = [] := (by rw [← h']; exact List.drop_of_length_le (by omega))
  subst hq; refine Ev.shift ?_; simp only [marginaliaref03_Same.l0]; exact Ev.neg (by omega) (Ev.now _)
 | cons e r ih =>
  intro q i h h'; have hlt := lt_of_drop h
  cases q with
  | nil => have := le_of_nil h'; omega
  | cons e' q =>
   refine Ev.shift ?_; simp only [marginaliaref03_Same.l0]; rw [rd_tn h, rd_tn h']; refine Ev.pos (by omega) (Ev.pos (by omega) (Ev.pos (by omega) ?_)); by_cases he : e = e'
   ·subst he; refine Ev.neg (fun x => (tn_ne e e).1 x rfl) ?_; rw [w64 (n := (i : Int) + 1) (by omega) (by omega), show decide (e :: r = e :: q) = decide (r = q) by simp]
    exact_mod_cast ih q (i + 1) (drop_next h) (drop_next h')
   ·refine Ev.pos ((tn_ne e e').2 he) ?_; rw [show decide (e :: r = e' :: q) = false from decide_eq_false (fun x => he (by injection x))]; exact Ev.now _
theorem rSame_ev (a b : List Tn) (hl : a.length ≤ 1000000000) : Ev (fun k => marginaliaref03_Same.f k a b) (decide (a = b)) := by
 unfold marginaliaref03_Same.f; by_cases h : a.length = b.length
 ·exact Ev.pos (by omega) (rsame_loop a b h hl a b 0 rfl rfl)
 ·rw [decide_eq_false (fun e => h (by rw [e]))]; exact Ev.neg (by omega) (Ev.now _)
theorem equal_loop (a b : List Tn) (hab : a.length = b.length) (hl : a.length ≤ 1000000000) : ∀ (r q : List Tn) (i : Nat), a.drop i = r → b.drop i = q → Ev (fun k => api_Token_49.l0 k a b (a.length : Int) (i : Int)) (decide (r = q)) := by
 intro r
 induction r with
 | nil =>
  intro q i h h'; have := le_of_nil h
  have hq : q = [] := (by rw [← h']; exact List.drop_of_length_le (by omega))
  subst hq; refine Ev.shift ?_; simp only [api_Token_49.l0]; exact Ev.neg (by omega) (Ev.now _)
 | cons e r ih =>
  intro q i h h'; have hlt := lt_of_drop h
  cases q with
  | nil => have := le_of_nil h'; omega
  | cons e' q =>
   refine Ev.shift ?_; simp only [api_Token_49.l0]; rw [rd_tn h, rd_tn h']; refine Ev.pos (by omega) (Ev.pos (by omega) (Ev.pos (by omega) (Ev.pos (by omega) ?_))); by_cases he : e = e'
   ·subst he; refine Ev.neg (fun x => (tn_ne e e).1 x rfl) ?_; rw [w64 (n := (i : Int) + 1) (by omega) (by omega), show decide (e :: r = e :: q) = decide (r = q) by simp]
    exact_mod_cast ih q (i + 1) (drop_next h) (drop_next h')
   ·refine Ev.pos ((tn_ne e e').2 he) ?_; rw [show decide (e :: r = e' :: q) = false from decide_eq_false (fun x => he (by injection x))]; exact Ev.now _
theorem equal_ev (a b : List Tn) (hl : a.length ≤ 1000000000) : Ev (fun k => api_Token_49.f k a b) (decide (a = b)) := by
 unfold api_Token_49.f; by_cases h : a.length = b.length
 ·exact Ev.pos (by omega) (equal_loop a b h hl a b 0 rfl rfl)
 ·rw [decide_eq_false (fun e => h (by rw [e]))]; exact Ev.neg (by omega) (Ev.now _)
/-! ### Cut -/
/-- The bytes of tokens. -/
def catS (l : List Tn) : Bs := (l.map fun t => t.f1.data.toList).flatten
def tot (l : List Tn) : Nat := (l.map fun t => t.f1.size).sum
theorem catS_cons (t : Tn) (l : List Tn) : catS (t :: l) = t.f1.data.toList ++ catS l := rfl
theorem tot_cons (t : Tn) (l : List Tn) : tot (t :: l) = t.f1.size + tot l := by simp [tot]
theorem tot_append (a b : List Tn) : tot (a ++ b) = tot a + tot b := by simp [tot]
theorem tot_one (t : Tn) : tot [t] = t.f1.size := by simp [tot]
theorem catS_length (l : List Tn) : (catS l).length = tot l := by
 induction l with
 | nil => rfl
 | cons t l ih => rw [catS_cons, List.length_append, isize, ih, tot_cons]
def Fine3 (l : List Tn) : Prop := l.length ≤ 20001 ∧ tot l ≤ 20001
theorem joined_go : ∀ (l : List Tn) (acc : Bs), (acc.length + tot l ≤ 20000 → token_joined.go l acc = some (ba (acc ++ catS l), true)) ∧ (¬ acc.length + tot l ≤ 20000 → ∃ s, token_joined.go l acc = some (s, false))
 | [], acc => by
  rw [token_joined.go, show acc ++ catS [] = acc from List.append_nil _]; refine ⟨fun h => ?_, fun h => ⟨⟨acc.toArray⟩, ?_⟩⟩
  ·rw [show decide ((acc.length : Int) ≤ 20000) = true from decide_eq_true (by simp [tot] at h; omega)]; rfl
  ·rw [show decide ((acc.length : Int) ≤ 20000) = false from decide_eq_false (by simp [tot] at h; omega)]
 | t :: r, acc => by
  rw [token_joined.go, tot_cons]; obtain ⟨i1, i2⟩ := joined_go r (acc ++ t.f1.data.toList); rw [List.length_append, isize] at i1 i2; by_cases h1 : (acc.length : Int) > 20000
  ·rw [if_pos h1]; exact ⟨fun h => by omega, fun _ => ⟨_, rfl⟩⟩
  ·rw [if_neg h1]; by_cases h2 : (t.f1.size : Int) > 20000
   ·rw [if_pos h2]; exact ⟨fun h => by omega, fun _ => ⟨_, rfl⟩⟩
   ·rw [if_neg h2]; refine ⟨fun h => ?_, fun h => i2 (by omega)⟩; rw [i1 (by omega), catS_cons, List.append_assoc]
/-- The error of tokens. -/
def chkT (l : List Tn) : Int := if tot l > 20000 ∨ l.length > 20000 then 3 else if lexS (catS l) = l then 0 else 4
theorem chkT_ok {l : List Tn} (h : chkT l = 0) : tot l ≤ 20000 ∧ l.length ≤ 20000 ∧ lexS (catS l) = l := by
 unfold chkT at h
 split at h
 ·cases h
 ·split at h
  ·rename_i h1 h2
   exact ⟨by omega, by omega, h2⟩
  ·cases h
theorem ba_data (l : Bs) : (ba l).data.toList = l := ba_list l
theorem lexS_length (l : Bs) : (lexS l).length ≤ l.length := by
 rw [lexS, List.length_map]
 have : ∀ (m : Nat) (l : Bs), l.length ≤ m → (lex l).length ≤ l.length := by
  intro m
  induction m with
  | zero =>
   intro l h; obtain rfl : l = [] := List.eq_nil_of_length_eq_zero (by omega); exact Nat.le_refl _
  | succ m ih =>
   intro l h
   cases l with
   | nil => exact Nat.le_refl _
   | cons c r =>
    have h0 := nx_pos c r; have h1 := ih ((c :: r).drop (nx (c :: r)).2) (by rw [List.length_drop]; simp only [List.length_cons] at *; omega); rw [List.length_drop] at h1; rw [lex_cons, List.length_cons]; simp only [List.length_cons] at *
    omega
 exact this l.length l (Nat.le_refl _)
theorem Text_ev (l : List Tn) (hf : Fine3 l) : Ev (fun k => token_Text.f k l) (if chkT l = 0 then ba (catS l) else ⟨#[]⟩, chkT l) := by
 have h1 := hf.1; unfold token_Text.f token_joined.f; obtain ⟨j1, j2⟩ := joined_go l []; rw [List.length_nil, Nat.zero_add] at j1 j2; by_cases ht : tot l ≤ 20000
 ·refine Ev.bind1 (j1 ht) (Ev.pos rfl (Ev.shift ?_)); simp only [token_Text.j0, List.nil_append]; by_cases hn : (l.length : Int) > 20000
  ·have hc : chkT l = 3 := if_pos (by omega); rw [hc]; exact Ev.pos (decide_eq_true hn) (Ev.now _)
  ·refine Ev.neg (by rw [decide_eq_false hn]; decide) ?_
   have hsz : (ba (catS l)).size = tot l := (by rw [ba_size, catS_length])
   have hL := Lex_ev (ba (catS l)) (by omega); rw [if_neg (by omega), ba_data] at hL; refine Ev.bind hL (Ev.bind (equal_ev (lexS (catS l)) l (by have := lexS_length (catS l); rw [catS_length] at this; omega)) ?_); have hc : chkT l = if lexS (catS l) = l then 0 else 4 := if_neg (by omega); rw [hc]; by_cases he : lexS (catS l) = l
   ·rw [if_pos he]; exact Ev.pos (decide_eq_true he) (Ev.now _)
   ·rw [if_neg he]; exact Ev.neg (by rw [decide_eq_false he]; decide) (Ev.now _)
 ·obtain ⟨s, hs⟩ := j2 ht; have hc : chkT l = 3 := if_pos (by omega); rw [hc]; refine Ev.bind1 hs (Ev.neg (show ¬ (false = true) by decide) (Ev.shift ?_)); simp only [token_Text.j0]; exact Ev.pos trivial (Ev.now _)
/-- The error of Relex. -/
def chk4 (l : List Tn) (m : List Ed) : Int := if chkT l = 0 then chk (tot l : Nat) m else chkT l
end Go.Proofs.Ytahcpappailjgaa.P

set_option linter.unusedVariables false
set_option linter.unusedSimpArgs false
namespace Go.Proofs.Ytahcpappailjgaa.P
open Go.RowKit Go.Proofs.YtahcpappailjgaaW.PrintWords Go.Proofs.YtahcpappailjgaaW.PrintLast Go.Proofs.YtahcpappailjgaaW.PrintMore
/-- Where the token i begins. -/
def pf (l : List Tn) (i : Nat) : Nat := tot (l.take i)
theorem pf_succ (l : List Tn) (i : Nat) (h : i < l.length) : pf l (i + 1) = pf l i + (l[i]).f1.size := by
 unfold pf; rw [List.take_succ_eq_append_getElem h, tot_append, tot_one]
theorem pf_le (l : List Tn) {i j : Nat} (h : i ≤ j) : pf l i ≤ pf l j := by
 unfold pf
 obtain ⟨d, rfl⟩ : ∃ d, j = i + d := ⟨j - i, by omega⟩
 rw [List.take_add, tot_append]
 omega
theorem pf_all (l : List Tn) {i : Nat} (h : l.length ≤ i) : pf l i = tot l := by unfold pf; rw [List.take_of_length_le h]
theorem pf_tot (l : List Tn) (i : Nat) : pf l i ≤ tot l := by
 rw [← pf_all l (Nat.le_refl _)]; by_cases h : i ≤ l.length
 ·exact pf_le l h
 ·rw [pf_all l (by omega)]; rw [pf_all l (Nat.le_refl _)]; exact Nat.le_refl _
/-- The places at which tokens begin, and the end of the last one. -/
def IsEnds (e : List Int) (l : List Tn) : Prop := e.length = l.length + 1 ∧ ∀ i, i ≤ l.length → e[i]? = some (pf l i : Int)
theorem IsEnds.val {e : List Int} {l : List Tn} (h : IsEnds e l) (i : Nat) (hi : i ≤ l.length) : rd e (i : Int) = (pf l i : Int) := by
 simp [rd, List.getD_eq_getElem?_getD, h.2 i hi]
theorem ends_loop (l : List Tn) (hl : l.length ≤ 100000) (ht : tot l ≤ 100000) : ∀ (d i : Nat) (acc : List Int), i + d = l.length → acc.length = i + 1 → (∀ j, j ≤ i → acc[j]? = some (pf l j : Int)) →
  ∃ e, IsEnds e l ∧ Ev (fun k => relex_ends.l0 k acc (pf l i : Int) l (l.length : Int) (i : Int)) e := by
 intro d
 induction d with
 | zero =>
  intro i acc hi ha hj; refine ⟨acc, ⟨by omega, fun j h => hj j (by omega)⟩, Ev.shift ?_⟩; simp only [relex_ends.l0]; exact Ev.neg (by omega) (Ev.now _)
 | succ d ih =>
  intro i acc hi ha hj
  have hlt : i < l.length := (by omega)
  have hs := pf_succ l i hlt; have hp := pf_tot l (i + 1)
  obtain ⟨e, he, hE⟩ := ih (i + 1) (acc ++ [(pf l (i + 1) : Int)]) (by omega) (by simp [ha]) (by
   intro j hj'; by_cases h : j ≤ i
   ·rw [List.getElem?_append_left (by omega)]; exact hj j h
   ·obtain rfl : j = i + 1 := (by omega)
    rw [List.getElem?_append_right (by omega), ha]
    simp)
  refine ⟨e, he, Ev.shift ?_⟩; simp only [relex_ends.l0]; have hr : rd_T59 l (i : Int) = l[i] := rd_tn (List.drop_eq_getElem_cons hlt); rw [hr]; refine Ev.pos (by omega) (Ev.pos (by omega) (Ev.pos (by omega) (Ev.pos (by omega) ?_))); rw [w64 (n := (i : Int) + 1) (by omega) (by omega), w64 (n := (pf l i : Int) + ((l[i]).f1.size : Int)) (by omega) (by omega), show (pf l i : Int) + ((l[i]).f1.size : Int) = (pf l (i + 1) : Int) by omega]; exact hE
theorem ends_ev (l : List Tn) (hl : l.length ≤ 100000) (ht : tot l ≤ 100000) : ∃ e, IsEnds e l ∧ Ev (fun k => relex_ends.f k l) e := by
 have := ends_loop l hl ht l.length 0 [0] (by omega) rfl (by
  intro j hj
  obtain rfl : j = 0 := (by omega)
  simp [pf, tot])
 simpa [pf, tot, relex_ends.f] using this
/-! ### the search -/
theorem less_eq (a b : Int) : cmp_Less_int.f a b = some (decide (a < b)) := by
 unfold cmp_Less_int.f cmp_isNaN_int.f
 simp
theorem bs_loop (e : List Int) (x : Int) (hz : e.length ≤ 1000000) : ∀ (d lo hi : Nat), hi - lo ≤ d → lo ≤ hi → hi ≤ e.length → (∀ (i : Nat) (v : Int), i < lo → e[i]? = some v → v < x) → (∀ (i : Nat) (v : Int), hi ≤ i → e[i]? = some v → x ≤ v) → (∀ (i j : Nat) (v u : Int), i ≤ j → e[i]? = some v → e[j]? = some u → v ≤ u) →
  ∃ r : Nat, r ≤ e.length ∧ (∀ (i : Nat) (v : Int), i < r → e[i]? = some v → v < x) ∧ (∀ (i : Nat) (v : Int), r ≤ i → e[i]? = some v → x ≤ v) ∧ Ev (fun k => slices_BinarySearch_int_int.l0 k e x (e.length : Int) (lo : Int) (hi : Int)) ((r : Int), decide (e[r]? = some x)) := by
 intro d
 induction d with
 | zero =>
  intro lo hi hd hlo hhi h1 h2 hm
  obtain rfl : lo = hi := (by omega)
  refine ⟨lo, hhi, h1, h2, Ev.shift ?_⟩; simp only [slices_BinarySearch_int_int.l0]; refine Ev.neg (by omega) ?_; by_cases h : lo < e.length
  ·have he : e[lo]? = some e[lo] := List.getElem?_eq_getElem h
   have hr : rd e (lo : Int) = e[lo] := (by simp [rd, List.getD_eq_getElem?_getD, he])
   refine Ev.pos (by omega) (Ev.pos (by omega) (Ev.pos (by omega) ?_)); rw [hr, he]; by_cases hx : e[lo] = x
   ·rw [show decide (some e[lo] = some x) = true from decide_eq_true (by rw [hx])]; exact Ev.pos hx (Ev.now _)
   ·rw [show decide (some e[lo] = some x) = false from decide_eq_false (fun q => hx (by injection q))]; refine Ev.neg hx (Ev.bind1 (a := false) (by unfold slices_isNaN_int.f; simp) (Ev.neg (by decide) (Ev.now _)))
  ·rw [show decide (e[lo]? = some x) = false from decide_eq_false (by rw [List.getElem?_eq_none (by omega)]; intro q; cases q)]; exact Ev.neg (by omega) (Ev.now _)
 | succ d ih =>
  intro lo hi hd hlo hhi h1 h2 hm; by_cases hlt : lo < hi
  ·obtain ⟨m, hmid, hm1, hm2⟩ : ∃ m : Nat, wrap64 (IntKind.u64.wrap (wrap64 ((lo : Int) + (hi : Int))) / 2) = (m : Int) ∧ lo ≤ m ∧ m < hi := by
    refine ⟨(lo + hi) / 2, ?_, by omega, by omega⟩; rw [w64 (n := (lo : Int) + (hi : Int)) (by omega) (by omega), IntWalk.u64_in _ (by omega), w64 (by omega) (by omega)]
    omega
   have hml : m < e.length := (by omega)
   have he : e[m]? = some e[m] := List.getElem?_eq_getElem hml
   have hr : rd e (m : Int) = e[m] := (by simp [rd, List.getD_eq_getElem?_getD, he])
   by_cases hx : e[m] < x
   ·obtain ⟨r, r1, r2, r3, hE⟩ := ih (m + 1) hi (by omega) (by omega) hhi (fun i v hi' hv => by
     have := hm i m v e[m] (by omega) hv he
     omega) h2 hm
    refine ⟨r, r1, r2, r3, Ev.shift ?_⟩; simp only [slices_BinarySearch_int_int.l0]; rw [hmid, hr]; refine Ev.pos (by omega) (Ev.pos (by omega) (Ev.pos (by omega) (Ev.bind1 (less_eq _ _) (Ev.pos (decide_eq_true hx) ?_)))); rw [w64 (n := (m : Int) + 1) (by omega) (by omega)]; exact hE
   ·obtain ⟨r, r1, r2, r3, hE⟩ := ih lo m (by omega) (by omega) (by omega) h1 (fun i v hi' hv => by
     have := hm m i e[m] v hi' he hv
     omega) hm
    refine ⟨r, r1, r2, r3, Ev.shift ?_⟩; simp only [slices_BinarySearch_int_int.l0]; rw [hmid, hr]; refine Ev.pos (by omega) (Ev.pos (by omega) (Ev.pos (by omega) (Ev.bind1 (less_eq _ _) (Ev.neg (by rw [decide_eq_false hx]; decide) ?_)))); exact hE
  ·exact ih lo hi (by omega) hlo hhi h1 h2 hm
/-- Tokens none of which is empty. -/
def Solid (l : List Tn) : Prop := ∀ t ∈ l, 0 < t.f1.size
theorem Solid.lt {l : List Tn} (h : Solid l) {i : Nat} (hi : i < l.length) : pf l i < pf l (i + 1) := by
 rw [pf_succ l i hi]; have := h l[i] (List.getElem_mem hi)
 omega
theorem holding_ev (l : List Tn) (e : List Int) (hl : l.length ≤ 100000) (ht : tot l ≤ 100000) (he : IsEnds e l) (hs : Solid l) (n : Nat) (hn : n < tot l) :
  ∃ h : Nat, h < l.length ∧ pf l h ≤ n ∧ n < pf l (h + 1) ∧ Ev (fun k => relex_holding.f k e (n : Int)) (h : Int) := by
 have hz : e.length = l.length + 1 := he.1
 have hval : ∀ i v, e[i]? = some v → i ≤ l.length ∧ v = (pf l i : Int) := by
  intro i v h; have hi : i < e.length := (List.getElem?_eq_some_iff.1 h).1; have := he.2 i (by omega); rw [h] at this; injection this with this; exact ⟨by omega, this⟩
 obtain ⟨r, r1, r2, r3, hE⟩ := bs_loop e (n : Int) (by omega) e.length 0 e.length (by omega) (by omega) (Nat.le_refl _) (fun i v h => by omega) (fun i v h hv => by have := (List.getElem?_eq_some_iff.1 hv).1; omega) (fun i j v u hij hv hu => by
  have h1 := hval i v hv; have h2 := hval j u hu; have := pf_le l hij
  omega)
 have hB : Ev (fun k => slices_BinarySearch_int_int.f k e (n : Int)) ((r : Int), decide (e[r]? = some (n : Int))) := hE; have hlast := he.2 l.length (Nat.le_refl _); rw [pf_all l (Nat.le_refl _)] at hlast
 have hrl : r ≤ l.length := by
  rcases Nat.lt_or_ge l.length r with h | h
  ·have := r2 l.length _ h hlast
   omega
  ·exact h
 have hr := he.2 r hrl; have hge := r3 r _ (Nat.le_refl _) hr; unfold relex_holding.f; by_cases hx : e[r]? = some (n : Int)
 ·rw [hx] at hr; injection hr with hr
  have hlt : r < l.length := by
   rcases Nat.lt_or_ge r l.length with h | h
   ·exact h
   ·have := pf_all l h; omega
  refine ⟨r, hlt, by omega, by have := hs.lt hlt; omega, Ev.bind hB (Ev.pos (decide_eq_true hx) (Ev.now _))⟩
 ·have hne : (pf l r : Int) ≠ (n : Int) := fun q => hx (by rw [hr, q])
  have h0 : 0 < r := by
   rcases Nat.eq_zero_or_pos r with h | h
   ·subst h
    have : pf l 0 = 0 := (by simp [pf, tot])
    omega
   ·exact h
  have hp := r2 (r - 1) _ (by omega) (he.2 (r - 1) (by omega)); refine ⟨r - 1, by omega, by omega, by rw [show r - 1 + 1 = r by omega]; omega, Ev.bind hB (Ev.neg (by rw [decide_eq_false hx]; exact Bool.false_ne_true) ?_)⟩; simp only; rw [w64 (by omega) (by omega), show (r : Int) - 1 = ((r - 1 : Nat) : Int) by omega]; exact Ev.now _
/-! ### line feeds -/
theorem last_nl (s : ByteArray) (F : Nat) (hF : F ≤ s.size) :
  (Lib.lastIndexByte (s.extract 0 F) 10 = -1 ∧ ∀ j, j < F → s.data.toList[j]? ≠ some 10) ∨ (∃ n : Nat, n < F ∧ Lib.lastIndexByte (s.extract 0 F) 10 = (n : Int) ∧ s.data.toList[n]? = some 10 ∧ ∀ j, n < j → j < F → s.data.toList[j]? ≠ some 10) := by
 have hz : (s.extract 0 F).size = F := (by rw [ByteArray.size_extract]; omega)
 have hB : ∀ j, j < F → ((((s.extract 0 F).data[j]!).toNat : Int) = 10 ↔ s.data.toList[j]? = some 10) := by
  intro j hj
  have h1 : j < s.data.toList.length := (by rw [Ut.size_data]; omega)
  have h2 : j < (s.extract 0 F).data.size := by
   have : (s.extract 0 F).data.size = (s.extract 0 F).size := rfl
   omega
  have e : (s.extract 0 F).data[j]! = s.data.toList[j] := by
   rw [getElem!_pos _ j h2]
   simp [ByteArray.data_extract]
  rw [e, List.getElem?_eq_getElem h1]
  constructor
  ·intro h; rw [(byte_int s.data.toList[j] 10 (by decide)).1 h]; rfl
  ·intro h; injection h with h; rw [h]; rfl
 have h := Lib.lastIndexByte_spec (s.extract 0 F) 10; rw [hz] at h
 rcases h with ⟨h1, h2⟩ | ⟨i, h1, h2, h3, h4⟩
 ·exact .inl ⟨h1, fun j hj e => h2 j hj ((hB j hj).2 e)⟩
 ·exact .inr ⟨i, h1, h2, (hB i h1).1 h3, fun j hj hj2 e => h4 j hj hj2 ((hB j hj2).2 e)⟩
theorem idx_nl : ∀ (l : Bs), (Lib.indexByte l 10 = -1 ∧ ∀ j : Nat, l[j]? ≠ some 10) ∨ (∃ n : Nat, Lib.indexByte l 10 = (n : Int) ∧ l[n]? = some 10 ∧ ∀ j, j < n → l[j]? ≠ some 10)
 | [] => .inl ⟨rfl, fun j e => by simp at e⟩
 | c :: r => by
  rw [Lib.indexByte]; by_cases hc : c = 10
  ·right
   rw [if_pos (by rw [hc]; rfl)]; exact ⟨0, rfl, by rw [hc]; rfl, fun j hj => by omega⟩
  ·rw [if_neg (by simpa using hc)]
   rcases idx_nl r with ⟨e, hn⟩ | ⟨n, e, hn, hj⟩
   ·left
    rw [e]; refine ⟨rfl, fun j q => ?_⟩
    cases j with
    | zero => simp at q; exact hc q
    | succ j => exact hn j (by simpa using q)
   ·right
    rw [e]; have : ((n : Int) == -1) = false := beq_eq_false_iff_ne.2 (by omega); refine ⟨n + 1, ?_, by simpa using hn, fun j hjn q => ?_⟩
    ·simp only [this]
     simp
    ·cases j with
     | zero => simp at q; exact hc q
     | succ j => exact hj j (by omega) (by simpa using q)
theorem index_nl (s : ByteArray) (T : Nat) (hT : T ≤ s.size) :
  (strings_IndexByte.f (s.extract T s.size) 10 = some (-1) ∧ ∀ j, T ≤ j → s.data.toList[j]? ≠ some 10) ∨ (∃ n : Nat, T ≤ n ∧ n < s.size ∧ strings_IndexByte.f (s.extract T s.size) 10 = some ((n : Int) - (T : Int)) ∧ s.data.toList[n]? = some 10 ∧ ∀ j, T ≤ j → j < n → s.data.toList[j]? ≠ some 10) := by
 have e0 : strings_IndexByte.f (s.extract T s.size) 10 = some (Lib.indexByte (s.data.toList.drop T) 10) := by
  unfold strings_IndexByte.f; rw [ext_suf]; rfl
 rw [e0]
 rcases idx_nl (s.data.toList.drop T) with ⟨e, hn⟩ | ⟨n, e, hn, hj⟩
 ·left
  rw [e]; refine ⟨rfl, fun j hj q => hn (j - T) ?_⟩; rw [List.getElem?_drop, show T + (j - T) = j by omega]; exact q
 ·right
  rw [List.getElem?_drop] at hn; have hlt := (List.getElem?_eq_some_iff.1 hn).1; rw [isize] at hlt; rw [e]; refine ⟨T + n, by omega, hlt, by congr 1; omega, hn, fun j h1 h2 q => hj (j - T) (by omega) ?_⟩; rw [List.getElem?_drop, show T + (j - T) = j by omega]; exact q
end Go.Proofs.Ytahcpappailjgaa.P

set_option linter.unusedVariables false
set_option linter.unusedSimpArgs false
namespace Go.Proofs.Ytahcpappailjgaa.P
open Go.RowKit Go.Proofs.YtahcpappailjgaaW.PrintWords Go.Proofs.YtahcpappailjgaaW.PrintLast Go.Proofs.YtahcpappailjgaaW.PrintMore
theorem cutS_end (s : ByteArray) (a : Int) : cutS s a s.size = s.data.toList.drop a.toNat := by
 rw [cutS_eq, Int.toNat_natCast, List.take_of_length_le (by rw [isize]; exact Nat.le_refl _)]
theorem app_end (s : ByteArray) : ∀ (r : List Ed) (e : Ed) (p : Int), sp s.size p (e :: r) = true → 0 ≤ p → ∃ (M : Bs) (f : Ed), (e :: r).getLast? = some f ∧ app s p (e :: r) = cutS s p e.f0 ++ (M ++ s.data.toList.drop f.f1.toNat) ∧ e.f0 ≤ f.f1 ∧ f.f1 ≤ s.size
 | [], e, p, h, h0 => by
  obtain ⟨h1, h2, h3, h4⟩ := sp_cons h; refine ⟨e.f2.data.toList, e, rfl, ?_, h2, h3⟩; rw [app, app, cutS_end, List.append_assoc]
 | e' :: r, e, p, h, h0 => by
  obtain ⟨h1, h2, h3, h4⟩ := sp_cons h; obtain ⟨M, f, hf, ha, hf1, hf2⟩ := app_end s r e' e.f1 h4 (by omega); obtain ⟨g1, _⟩ := sp_cons h4; refine ⟨e.f2.data.toList ++ (cutS s e.f1 e'.f0 ++ M), f, by rw [List.getLast?_cons_cons]; exact hf, ?_, by omega, hf2⟩; rw [app, ha]; simp only [List.append_assoc]
theorem app_split (s : ByteArray) (e : Ed) (r : List Ed) (h : sp s.size 0 (e :: r) = true) : ∃ (M : Bs) (f : Ed), (e :: r).getLast? = some f ∧ app s 0 (e :: r) = s.data.toList.take e.f0.toNat ++ (M ++ s.data.toList.drop f.f1.toNat) ∧ 0 ≤ e.f0 ∧ e.f0 ≤ f.f1 ∧ f.f1 ≤ s.size := by
 obtain ⟨M, f, hf, ha, h1, h2⟩ := app_end s r e 0 h (Int.le_refl _); obtain ⟨g1, _⟩ := sp_cons h; refine ⟨M, f, hf, ?_, g1, h1, h2⟩; rw [ha, cutS_eq]
 simp
theorem split_at {α : Type} {l : List α} {i : Nat} (h : i < l.length) : l = l.take i ++ l[i] :: l.drop (i + 1) := by
 rw [List.getElem_cons_drop, List.take_append_drop]
theorem at_split {α : Type} {l : List α} {n : Nat} {x : α} (h : l[n]? = some x) : l = l.take n ++ x :: l.drop (n + 1) := by
 obtain ⟨hn, e⟩ := List.getElem?_eq_some_iff.1 h; subst e; exact split_at hn
/-! ### tokens of both forms -/
theorem map_un (l : List Tk) : (l.map mkS).map unS = l := by
 rw [List.map_map]
 conv => rhs; rw [← List.map_id l]
 exact List.map_congr_left (fun t _ => un_mk t)
theorem map_mk (l : List Tn) : (l.map unS).map mkS = l := by
 rw [List.map_map]
 conv => rhs; rw [← List.map_id l]
 exact List.map_congr_left (fun t _ => mk_un t)
theorem lex_of (l : List Tn) (h : lexS (catS l) = l) : lex (catS l) = l.map unS := by
 conv => rhs; rw [← h]
 rw [lexS, map_un]
theorem cat_un (l : List Tn) : cat (l.map unS) = catS l := by
 unfold cat catS; rw [List.map_map]; rfl
theorem cat_pf (l : List Tn) (i : Nat) : (cat ((l.take i).map unS)).length = pf l i := by rw [cat_un, catS_length]; rfl
theorem cat_suf (l : List Tn) (i : Nat) : (cat ((l.drop i).map unS)).length = tot l - pf l i := by
 rw [cat_un, catS_length]
 have : tot l = tot (l.take i) + tot (l.drop i) := (by rw [← tot_append, List.take_append_drop])
 unfold pf
 omega
theorem solid_of (l : List Tn) (h : lexS (catS l) = l) : Solid l := by
 intro t ht; rw [← h] at ht; obtain ⟨u, hu, rfl⟩ := List.mem_map.1 ht; have := lex_pos _ u hu
 show 0 < (ba u.2).size
 rw [ba_size]
 cases e : u.2 with
 | nil => exact absurd e this
 | cons c r => simp
theorem split_un (l : List Tn) (i : Nat) (h : i < l.length) : l.map unS = (l.take i).map unS ++ unS l[i] :: (l.drop (i + 1)).map unS := by
 conv => lhs; rw [split_at h]
 rw [List.map_append, List.map_cons]
theorem cut_nl {T : Bs} {n : Nat} (h : T[n]? = some 10) : T = T.take n ++ 10 :: T.drop (n + 1) := at_split h
theorem front_at (l : List Tn) (h : lexS (catS l) = l) (i n F : Nat) (hi : i < l.length) (hn : (catS l)[n]? = some 10) (hF : n < F) (h1 : pf l i ≤ n) (h2 : n < pf l (i + 1)) : Front ((catS l).take F) ((l.take i).map unS) := by
 have hlt := (List.getElem?_eq_some_iff.1 hn).1
 have hl : ((catS l).take n).length = n := (by rw [List.length_take]; omega)
 have := front_of (T := catS l) (P := (catS l).take n) (Z := (catS l).drop (n + 1)) (u := (l.take i).map unS) (t := unS l[i]) (v := (l.drop (i + 1)).map unS) (by rw [lex_of l h]; exact split_un l i hi) (cut_nl hn) (by rw [cat_pf, hl]; exact h1)
  (by rw [cat_pf, hl]; have := pf_succ l i hi; have e : (unS l[i]).2.length = (l[i]).f1.size := isize _; omega) (((catS l).drop (n + 1)).take (F - (n + 1)))
 have e : (catS l).take F = (catS l).take n ++ 10 :: ((catS l).drop (n + 1)).take (F - (n + 1)) := by
  conv => lhs; rw [cut_nl hn]
  rw [List.take_append, hl, List.take_of_length_le (by omega : ((catS l).take n).length ≤ F)]
  congr 1
  rw [show F - n = (F - (n + 1)) + 1 by omega, List.take_succ_cons]
 rw [e]; exact this
theorem back_at (l : List Tn) (h : lexS (catS l) = l) (i n To : Nat) (hi : i < l.length) (hn : (catS l)[n]? = some 10) (hT : To ≤ n) (h1 : pf l i ≤ n) (h2 : n < pf l (i + 1)) : Back ((catS l).drop To) ((l.drop (i + 1)).map unS) := by
 have hlt := (List.getElem?_eq_some_iff.1 hn).1
 have hl : ((catS l).take n).length = n := (by rw [List.length_take]; omega)
 have := back_of (T := catS l) (P := (catS l).take n) (Z := (catS l).drop (n + 1)) (u := (l.take i).map unS) (t := unS l[i]) (v := (l.drop (i + 1)).map unS) (by rw [lex_of l h]; exact split_un l i hi) (cut_nl hn) (by rw [cat_pf, hl]; exact h1)
  (by rw [cat_pf, hl]; have := pf_succ l i hi; have e : (unS l[i]).2.length = (l[i]).f1.size := isize _; omega) (((catS l).take n).drop To)
 have e : (catS l).drop To = ((catS l).take n).drop To ++ 10 :: (catS l).drop (n + 1) := by
  conv => lhs; rw [cut_nl hn]
  rw [List.drop_append_of_le_length (by omega)]
 rw [e]; exact this
theorem catS_map (L : List Tk) : catS (L.map mkS) = cat L := by
 unfold catS cat; rw [List.map_map]
 congr 1
theorem catS_lexS (T : Bs) : catS (lexS T) = T := by
 rw [lexS, catS_map, cat_lex T.length T (Nat.le_refl _)]
theorem tot_lexS (T : Bs) : tot (lexS T) = T.length := by rw [← catS_length, catS_lexS]
theorem chkT_lexS (T : Bs) (h : T.length ≤ 20000) : chkT (lexS T) = 0 := by
 have := lexS_length T; unfold chkT; rw [tot_lexS, catS_lexS, if_neg (by omega), if_pos rfl]
theorem chk4_lexS (T : Bs) (h : T.length ≤ 20000) (m : List Ed) : chk4 (lexS T) m = chk (T.length : Nat) m := by
 unfold chk4; rw [if_pos (chkT_lexS T h), tot_lexS]
theorem fine_lexS (T : Bs) (h : T.length ≤ 20000) : Fine3 (lexS T) := ⟨by have := lexS_length T; omega, by rw [tot_lexS]; omega⟩
/-- What Relex returns. -/
structure RxOk (l : List Tn) (m : List Ed) (n : List Tn) (a b : Nat) : Prop where
 toks : n = lexS (app (ba (catS l)) 0 m)
 le1 : a + b ≤ l.length
 le2 : a + b ≤ n.length
 pre : n.take a = l.take a
 suf : n.drop (n.length - b) = l.drop (l.length - b)
 nil : m = [] → a = l.length ∧ b = 0
 fst : ∀ e r, m = e :: r → ∀ j : Nat, (j : Int) < e.f0 → (catS l)[j]? = some 10 → j < pf l (a + 1)
 lst : ∀ e, m = [e] → ∀ j : Nat, e.f1 ≤ (j : Int) → (catS l)[j]? = some 10 → pf l (l.length - b - 1) ≤ j
/-- The end of Relex, once it is known which tokens are kept. -/
theorem rx_tail (l : List Tn) (m : List Ed) (e : Ed) (r : List Ed) (f : Ed) (M : Bs) (E : List Int) (a c : Nat) (hm : m = e :: r) (hlast : m.getLast? = some f) (hl : l.length ≤ 20001) (ht : tot l ≤ 20001) (hE : IsEnds E l)
  (happ : app (ba (catS l)) 0 m = (catS l).take e.f0.toNat ++ (M ++ (catS l).drop f.f1.toNat)) (hx : (app (ba (catS l)) 0 m).length ≤ 20000) (hc : c ≤ l.length) (hac : a ≤ c)
  (hP : Front ((catS l).take e.f0.toNat) ((l.take a).map unS)) (hQ : Back ((catS l).drop f.f1.toNat) ((l.drop c).map unS))
  (h1 : ∀ j : Nat, (j : Int) < e.f0 → (catS l)[j]? = some 10 → j < pf l (a + 1)) (h2 : ∀ j : Nat, f.f1 ≤ (j : Int) → (catS l)[j]? = some 10 → pf l (c - 1) ≤ j) :
  ∃ n mid, RxOk l m n a (l.length - c) ∧ pf l a + (tot l - pf l c) ≤ (app (ba (catS l)) 0 m).length ∧
   Ev (fun k => token_Lex.f k ((ba (app (ba (catS l)) 0 m)).extract (pf l a) ((app (ba (catS l)) 0 m).length - (tot l - pf l c)))) (mid, 0) ∧ api_Token_36.f [l.take a, mid, l.drop c] = some n := by
 have hcl := pf_tot l c; have hcv := cat_suf l c; have hcu := cat_pf l a; have key := front_back hP hQ M; rw [← happ, hcu, hcv] at key; have hP1 := hP.1; have hQ1 := hQ.1
 have hlen : (app (ba (catS l)) 0 m).length = ((catS l).take e.f0.toNat).length + (M.length + ((catS l).drop f.f1.toNat).length) := (by rw [happ, List.length_append, List.length_append])
 generalize hA : app (ba (catS l)) 0 m = A at *
 have hle : pf l a + (tot l - pf l c) ≤ A.length := (by omega)
 have hmid : ((ba A).extract (pf l a) (A.length - (tot l - pf l c))).data.toList = (A.take (A.length - (tot l - pf l c))).drop (pf l a) := by
  rw [ext_list, ba_data, List.drop_take]
 have hms : ((ba A).extract (pf l a) (A.length - (tot l - pf l c))).size ≤ 20000 := (by rw [ByteArray.size_extract, ba_size]; omega)
 have hLex := Lex_ev ((ba A).extract (pf l a) (A.length - (tot l - pf l c))) (by omega); rw [if_neg (by omega), hmid] at hLex
 have hn : lexS A = l.take a ++ (lexS ((A.take (A.length - (tot l - pf l c))).drop (pf l a)) ++ l.drop c) := by
  rw [lexS, key, List.map_append, List.map_append, map_mk, map_mk]; rfl
 have hml := lexS_length ((A.take (A.length - (tot l - pf l c))).drop (pf l a)); rw [List.length_drop, List.length_take] at hml; generalize lexS ((A.take (A.length - (tot l - pf l c))).drop (pf l a)) = mid at *
 have hta : (l.take a).length = a := (by rw [List.length_take]; omega)
 have htc : (l.drop c).length = l.length - c := List.length_drop
 have hnl : (lexS A).length = a + (mid.length + (l.length - c)) := (by rw [hn, List.length_append, List.length_append, hta, htc])
 refine ⟨lexS A, mid, ⟨by rw [hA], by omega, by omega, ?_, ?_, fun h => (by rw [hm] at h; cases h), ?_, ?_⟩, hle, hLex, ?_⟩
 ·rw [hn, List.take_left' hta]
 ·rw [show l.length - (l.length - c) = c by omega, hnl, hn, ← List.append_assoc, List.drop_left']; rw [List.length_append, hta]
  omega
 ·intro e' r' h; rw [hm] at h; injection h with h _; subst h; exact h1
 ·intro e' h j hj hj2
  have hf : f = e' := by
   rw [h] at hlast; injection hlast with hlast; exact hlast.symm
  subst hf; have := h2 j hj hj2
  rwa [show l.length - (l.length - c) - 1 = c - 1 by omega]
 ·unfold api_Token_36.f
  have ef : [l.take a, mid, l.drop c].flatten = lexS A := (by rw [hn]; simp)
  rw [ef, if_pos]; refine ⟨by simp, ?_⟩; rw [hnl]
  omega
theorem rx_j0 (l : List Tn) (m : List Ed) (e : Ed) (r : List Ed) (E : List Int) (a : Nat) (hm : m = e :: r) (hk : lexS (catS l) = l) (hl : l.length ≤ 20001) (ht : tot l ≤ 20001) (hE : IsEnds E l) (hlm : m.length ≤ 102)
  (hsp : sp (tot l : Nat) 0 m = true) (hx : (app (ba (catS l)) 0 m).length ≤ 20000) (ha : a = 0 ∨ ∃ n : Nat, (n : Int) < e.f0 ∧ n < pf l (a + 1) ∧ pf l a ≤ n ∧ a < l.length)
  (hP : Front ((catS l).take e.f0.toNat) ((l.take a).map unS)) (h1 : ∀ j : Nat, (j : Int) < e.f0 → (catS l)[j]? = some 10 → j < pf l (a + 1)) :
  ∃ n b, RxOk l m n a b ∧ Ev (fun k => relex_Relex.j0 k l m (ba (catS l)) (ba (app (ba (catS l)) 0 m)) E (a : Int)) (n, (a : Int), (b : Int), 0) := by
 have hs := solid_of l hk
 have hsz : (ba (catS l)).size = tot l := (by rw [ba_size, catS_length])
 have hsp' : sp (ba (catS l)).size 0 (e :: r) = true := (by rw [hsz, ← hm]; exact hsp)
 obtain ⟨M, f, hlast, happ, f0, f1, f2⟩ := app_split (ba (catS l)) e r hsp'; rw [ba_data, ← hm] at happ; rw [← hm] at hlast; rw [hsz] at f2
 have hm0 : 0 < m.length := (by rw [hm]; simp)
 have hji : wrap64 ((m.length : Int) - 1) = ((m.length - 1 : Nat) : Int) := (by rw [w64 (by omega) (by omega)]; omega)
 have hrd : rd_T39 m ((m.length - 1 : Nat) : Int) = f := by
  apply rd_at (r := [])
  rw [List.getLast?_eq_getElem?] at hlast; rw [List.drop_eq_getElem_cons (by omega), List.drop_of_length_le (by omega)]; rw [List.getElem?_eq_getElem (by omega)] at hlast; injection hlast with hlast; rw [hlast]
 have hz : E.length = l.length + 1 := hE.1
 obtain ⟨To, hTo⟩ : ∃ To : Nat, f.f1 = (To : Int) := ⟨f.f1.toNat, by omega⟩
 have hToN : f.f1.toNat = To := (by omega)
 have hxs : (ba (app (ba (catS l)) 0 m)).size = (app (ba (catS l)) 0 m).length := ba_size _
 have hal : a ≤ l.length := by
  rcases ha with ha | ⟨n, _, _, _, ha⟩ <;> omega
 have hpa := pf_tot l a
 rcases index_nl (ba (catS l)) To (by omega) with ⟨hidx, hno⟩ | ⟨n, hn1, hn2, hidx, hnl, hno⟩
 ·rw [ba_data] at hno
  have hQ : Back ((catS l).drop f.f1.toNat) ((l.drop l.length).map unS) := (by rw [List.drop_length]; exact back_nil _)
  obtain ⟨n', mid, hok, hle, hLex, hcon⟩ := rx_tail l m e r f M E a l.length hm hlast hl ht hE happ hx (Nat.le_refl _) hal hP hQ h1 (fun j hj hj2 => absurd hj2 (hno j (by omega))); rw [pf_all l (Nat.le_refl _)] at hle hLex; refine ⟨n', l.length - l.length, hok, Ev.shift ?_⟩; simp only [relex_Relex.j0]; rw [hji, hrd, hTo]; simp only [hsz, Int.toNat_natCast]; rw [hsz] at hidx; have r1 := hE.val a hal; have r2 := hE.val l.length (Nat.le_refl _); rw [pf_all l (Nat.le_refl _)] at r2; rw [r1, r2, hxs, w64 (n := (tot l : Int) - (tot l : Int)) (by omega) (by omega), w64 (n := ((app (ba (catS l)) 0 m).length : Int) - ((tot l : Int) - (tot l : Int))) (by omega) (by omega)]; refine Ev.pos (by omega) (Ev.pos (by omega) (Ev.pos (by omega) (Ev.pos (by omega) (Ev.bind1 hidx (Ev.neg (by omega) ?_))))); refine Ev.pos (by omega) (Ev.pos (by omega) (Ev.pos (by omega) (Ev.pos (by omega) (Ev.pos (by omega) (Ev.pos (by omega) (Ev.pos (by omega) ?_)))))); rw [show (((app (ba (catS l)) 0 m).length : Int) - ((tot l : Int) - (tot l : Int))).toNat = (app (ba (catS l)) 0 m).length - (tot l - tot l) by omega]; refine Ev.bind hLex (Ev.pos (by omega) (Ev.pos (by omega) (Ev.bind1 hcon ?_))); rw [w64 (by omega) (by omega), show (l.length : Int) - (l.length : Int) = ((l.length - l.length : Nat) : Int) by omega]; exact Ev.now _
 ·rw [ba_data] at hno hnl; rw [hsz] at hn2; obtain ⟨h, hh1, hh2, hh3, hH⟩ := holding_ev l E (by omega) (by omega) hE hs n hn2; have hQ : Back ((catS l).drop f.f1.toNat) ((l.drop (h + 1)).map unS) := back_at l hk h n f.f1.toNat hh1 hnl (by omega) hh2 hh3
  have hah : a ≤ h + 1 := by
   rcases ha with ha | ⟨n0, ha1, ha2, ha3, ha4⟩
   ·omega
   ·rcases Nat.lt_or_ge (h + 1) a with hlt | hge
    ·have := pf_le l (show h + 1 ≤ a by omega)
     omega
    ·exact hge
  obtain ⟨n', mid, hok, hle, hLex, hcon⟩ := rx_tail l m e r f M E a (h + 1) hm hlast hl ht hE happ hx (by omega) hah hP hQ h1 (fun j hj hj2 => by
   rw [show h + 1 - 1 = h by omega]
   rcases Nat.lt_or_ge j n with hjn | hjn
   ·exact absurd hj2 (hno j (by omega) hjn)
   ·omega)
  refine ⟨n', l.length - (h + 1), hok, Ev.shift ?_⟩; simp only [relex_Relex.j0]; rw [hji, hrd, hTo]; simp only [hsz, Int.toNat_natCast]; rw [hsz] at hidx; have hpk := pf_tot l (h + 1); have r1 := hE.val a hal; have r2 := hE.val (h + 1) (by omega); refine Ev.pos (by omega) (Ev.pos (by omega) (Ev.pos (by omega) (Ev.pos (by omega) (Ev.bind1 hidx (Ev.pos (by omega) ?_))))); rw [w64 (n := (To : Int) + ((n : Int) - (To : Int))) (by omega) (by omega), show (To : Int) + ((n : Int) - (To : Int)) = (n : Int) by omega]; refine Ev.bind hH ?_; rw [w64 (n := (h : Int) + 1) (by omega) (by omega), show (h : Int) + 1 = ((h + 1 : Nat) : Int) from rfl, r1, r2, hxs, w64 (n := (tot l : Int) - (pf l (h + 1) : Int)) (by omega) (by omega), w64 (n := ((app (ba (catS l)) 0 m).length : Int) - ((tot l : Int) - (pf l (h + 1) : Int))) (by omega) (by omega)]; refine Ev.pos (by omega) (Ev.pos (by omega) (Ev.pos (by omega) (Ev.pos (by omega) (Ev.pos (by omega) (Ev.pos (by omega) (Ev.pos (by omega) ?_)))))); rw [show (((app (ba (catS l)) 0 m).length : Int) - ((tot l : Int) - (pf l (h + 1) : Int))).toNat = (app (ba (catS l)) 0 m).length - (tot l - pf l (h + 1)) by omega]; simp only [Int.toNat_natCast]; refine Ev.bind hLex (Ev.pos (by omega) (Ev.pos (by omega) (Ev.bind1 hcon ?_))); rw [w64 (by omega) (by omega), show (l.length : Int) - ((h + 1 : Nat) : Int) = ((l.length - (h + 1) : Nat) : Int) by omega]; exact Ev.now _
theorem Relex_ev (l : List Tn) (m : List Ed) (hf : Fine3 l) (hm : Fit m) (hc : chk4 l m = 0) : ∃ n a b, RxOk l m n a b ∧ Ev (fun k => relex_Relex.f k l m) (n, (a : Int), (b : Int), 0) := by
 obtain ⟨h1, h2⟩ := hf
 have hT : chkT l = 0 := by
  unfold chk4 at hc; by_cases h : chkT l = 0
  ·exact h
  ·rw [if_neg h] at hc; exact absurd hc h
 have hM : chk (tot l : Nat) m = 0 := by
  unfold chk4 at hc
  rwa [if_pos hT] at hc
 obtain ⟨t1, t2, t3⟩ := chkT_ok hT; obtain ⟨c1, c2, c3, c4⟩ := chk_ok hM; have hs := solid_of l t3
 have hsz : (ba (catS l)).size = tot l := (by rw [ba_size, catS_length])
 have hTx := Text_ev l ⟨h1, h2⟩; simp only [hT, if_true] at hTx; have hAp := apply_ev (ba (catS l)) m (by omega) hm; rw [hsz, if_pos hM, hM] at hAp; have hal := app_length (ba (catS l)) m 0 (by rw [hsz]; exact c3) (Int.le_refl _) (by omega); rw [hsz] at hal
 have hx : (app (ba (catS l)) 0 m).length ≤ 20000 := (by omega)
 unfold relex_Relex.f
 cases m with
 | nil =>
  have happ : app (ba (catS l)) 0 [] = catS l := by
   rw [app, cutS_end, ba_data]; rfl
  refine ⟨l, l.length, 0, ⟨by rw [happ, t3], by omega, by omega, rfl, rfl, fun _ => ⟨rfl, rfl⟩, fun e r h => (by cases h), fun e h => (by cases h)⟩, ?_⟩; refine Ev.bind hTx (Ev.pos rfl (Ev.bind hAp (Ev.pos rfl (Ev.pos rfl (Ev.bind1 (a := l) ?_ (Ev.now _)))))); unfold api_Token_31.f; rw [if_pos (by omega)]
 | cons e r =>
  obtain ⟨g1, g2, g3, g4⟩ := sp_cons c3; have hrd : rd_T39 (e :: r) 0 = e := rfl; obtain ⟨E, hE, hEE⟩ := ends_ev l (by omega) (by omega)
  obtain ⟨F, hF⟩ : ∃ F : Nat, e.f0 = (F : Int) := ⟨e.f0.toNat, by omega⟩
  have hFN : e.f0.toNat = F := (by omega)
  have hlm : (e :: r).length ≤ 102 := (by omega)
  have hlen : ((e :: r).length : Int) = (r.length : Int) + 1 := (by simp)
  rcases last_nl (ba (catS l)) F (by omega) with ⟨hidx, hno⟩ | ⟨n, hn1, hidx, hnl, hno⟩
  ·rw [ba_data] at hno; have hP : Front ((catS l).take e.f0.toNat) ((l.take 0).map unS) := front_nil _; obtain ⟨n, b, hok, hj⟩ := rx_j0 l (e :: r) e r E 0 rfl t3 h1 h2 hE hlm c3 hx (.inl rfl) hP (fun j hj hj2 => absurd hj2 (hno j (by omega))); refine ⟨n, 0, b, hok, ?_⟩; refine Ev.bind hTx (Ev.pos rfl (Ev.bind hAp (Ev.pos rfl (Ev.neg (by omega) (Ev.bind hEE (Ev.pos (by omega) ?_)))))); rw [hrd, hF]; simp only [hsz, Int.toNat_natCast]; refine Ev.pos (by omega) (Ev.pos (by omega) (Ev.bind1 (a := -1) (by unfold strings_LastIndexByte.f; rw [if_pos (by rw [ByteArray.size_extract]; omega), hidx]) (Ev.neg (by decide) hj)))
  ·rw [ba_data] at hno hnl
   have hnt : n < tot l := (by omega)
   obtain ⟨h, hh1, hh2, hh3, hH⟩ := holding_ev l E (by omega) (by omega) hE hs n hnt; have hP : Front ((catS l).take e.f0.toNat) ((l.take h).map unS) := front_at l t3 h n e.f0.toNat hh1 hnl (by omega) hh2 hh3
   obtain ⟨n', b, hok, hj⟩ := rx_j0 l (e :: r) e r E h rfl t3 h1 h2 hE hlm c3 hx (.inr ⟨n, by omega, hh3, hh2, hh1⟩) hP (fun j hj hj2 => by
    rcases Nat.lt_or_ge n j with hjn | hjn
    ·exact absurd hj2 (hno j hjn (by omega))
    ·omega)
   refine ⟨n', h, b, hok, ?_⟩; refine Ev.bind hTx (Ev.pos rfl (Ev.bind hAp (Ev.pos rfl (Ev.neg (by omega) (Ev.bind hEE (Ev.pos (by omega) ?_)))))); rw [hrd, hF]; simp only [hsz, Int.toNat_natCast]; refine Ev.pos (by omega) (Ev.pos (by omega) (Ev.bind1 (a := (n : Int)) (by unfold strings_LastIndexByte.f; rw [if_pos (by rw [ByteArray.size_extract]; omega), hidx]) (Ev.pos (by omega) (Ev.bind hH hj))))
theorem Relex_bad (l : List Tn) (m : List Ed) (hf : Fine3 l) (hm : Fit m) (hc : chk4 l m ≠ 0) : Ev (fun k => relex_Relex.f k l m) ([], 0, 0, chk4 l m) := by
 have hf2 := hf.2; have hTx := Text_ev l hf; unfold relex_Relex.f chk4 at *; by_cases hT : chkT l = 0
 ·rw [if_pos hT] at hc ⊢; simp only [hT, if_true] at hTx
  have hsz : (ba (catS l)).size = tot l := (by rw [ba_size, catS_length])
  have hAp := apply_ev (ba (catS l)) m (by omega) hm; rw [hsz, if_neg hc] at hAp; exact Ev.bind hTx (Ev.pos rfl (Ev.bind hAp (Ev.neg hc (Ev.now _))))
 ·rw [if_neg hT] at hc ⊢; simp only [if_neg hT] at hTx; exact Ev.bind hTx (Ev.neg hT (Ev.now _))
end Go.Proofs.Ytahcpappailjgaa.P

set_option linter.unusedVariables false
namespace Go.Proofs.Ytahcpappailjgaa.P
open Go.RowKit Go.Proofs.YtahcpappailjgaaW.PrintWords Go.Proofs.YtahcpappailjgaaW.PrintLast Go.Proofs.YtahcpappailjgaaW.PrintMore
theorem alive_ev : Ev (fun k => marginalialaw04_alive.f k) true := Ev.of marginalialaw04_alive.mono (k := 60) (by kernel_rfl)
end Go.Proofs.Ytahcpappailjgaa.P

namespace Go.Proofs.Ytahcpappailjgaa.LabP
inductive Conn (R : Nat → Nat → Prop) : Nat → Nat → Prop where
 | refl (a : Nat) : Conn R a a
 | symm {a b : Nat} : Conn R a b → Conn R b a
 | trans {a b c : Nat} : Conn R a b → Conn R b c → Conn R a c
 | of {a b : Nat} : R a b → Conn R a b
def lab (l : List Nat) (i : Nat) : Nat := l.getD i 0
def stepL (l : List Nat) (x y : Nat) : List Nat := l.map fun v => if v = max x y then min x y else v
theorem stepL_len (l : List Nat) (x y : Nat) : (stepL l x y).length = l.length := by simp [stepL]
theorem lab_step (l : List Nat) (x y i : Nat) (h : i < l.length) : lab (stepL l x y) i = if lab l i = max x y then min x y else lab l i := by
 simp only [lab, stepL, List.getD_eq_getElem?_getD, List.getElem?_map, List.getElem?_eq_getElem h, Option.map_some, Option.getD_some]
structure Lab (R : Nat → Nat → Prop) (l : List Nat) : Prop where
 le : ∀ i, i < l.length → lab l i ≤ i
 fix : ∀ i, i < l.length → lab l (lab l i) = lab l i
 conn : ∀ i j, i < l.length → j < l.length → lab l i = lab l j → Conn R i j
theorem lab_range (n i : Nat) (h : i < n) : lab (List.range n) i = i := by
 simp [lab, List.getD_eq_getElem?_getD, List.getElem?_range h]
theorem Lab.start (R : Nat → Nat → Prop) (n : Nat) : Lab R (List.range n) := by
 refine ⟨fun i hi => ?_, fun i hi => ?_, fun i j hi hj h => ?_⟩
 ·rw [List.length_range] at hi; rw [lab_range n i hi]; exact Nat.le_refl _
 ·rw [List.length_range] at hi; rw [lab_range n i hi, lab_range n i hi]
 ·rw [List.length_range] at hi hj; rw [lab_range n i hi, lab_range n j hj] at h; rw [h]; exact .refl _
theorem Lab.step {R : Nat → Nat → Prop} {l : List Nat} (h : Lab R l) {i k : Nat} (hi : i < l.length) (hk : k < l.length) (hR : R i k) (hne : lab l i ≠ lab l k) : Lab R (stepL l (lab l i) (lab l k)) := by
 have hx := h.le i hi; have hy := h.le k hk; have fx := h.fix i hi; have fy := h.fix k hk
 have HL := fun a (ha : a < l.length) => lab_step l (lab l i) (lab l k) a ha
 generalize hxe : lab l i = x at *; generalize hye : lab l k = y at *
 have hmin : lab l (min x y) = min x y := by
  rcases Nat.le_total x y with q | q
  ·rw [Nat.min_eq_left q, fx]
  ·rw [Nat.min_eq_right q, fy]
 refine ⟨fun a ha => ?_, fun a ha => ?_, fun a b ha hb hab => ?_⟩
 ·rw [stepL_len] at ha; have := h.le a ha; rw [HL a ha]
  split <;> omega
 ·rw [stepL_len] at ha; have hla := h.le a ha; have hfa := h.fix a ha; rw [HL a ha]
  split
  ·rw [HL _ (by omega), hmin, if_neg (by omega)]
  ·rename_i c
   rw [HL _ (by omega), hfa, if_neg c]
 ·rw [stepL_len] at ha hb; rw [HL a ha, HL b hb] at hab; have hik : Conn R i k := .of hR
  have toi : ∀ c, c < l.length → (lab l c = x ∨ lab l c = y) → Conn R c i := fun c hc q => by
   rcases q with q | q
   ·exact h.conn c i hc hi (by rw [q, hxe])
   ·exact (h.conn c k hc hk (by rw [q, hye])).trans hik.symm
  by_cases c1 : lab l a = max x y
  ·rw [if_pos c1] at hab; have qa := toi a ha (by omega); by_cases c2 : lab l b = max x y
   ·exact qa.trans (toi b hb (by omega)).symm
   ·rw [if_neg c2] at hab; exact qa.trans (toi b hb (by omega)).symm
  ·rw [if_neg c1] at hab; by_cases c2 : lab l b = max x y
   ·rw [if_pos c2] at hab; exact (toi a ha (by omega)).trans (toi b hb (by omega)).symm
   ·rw [if_neg c2] at hab; exact h.conn a b ha hb hab
theorem sum_le : ∀ (l : List Nat) (f : Nat → Nat), (∀ v, f v ≤ v) → (l.map f).sum ≤ l.sum
 | [], _, _ => Nat.le_refl _
 | v :: r, f, h => by
  have h1 := h v; have h2 := sum_le r f h; simp only [List.map_cons, List.sum_cons]
  omega
theorem sum_lt : ∀ (l : List Nat) (f : Nat → Nat), (∀ v, f v ≤ v) → (∃ v, v ∈ l ∧ f v < v) → (l.map f).sum < l.sum
 | [], _, _, h => by
  obtain ⟨v, hv, _⟩ := h
  cases hv
 | v :: r, f, h, hx => by
  have h1 := h v; have h2 := sum_le r f h; simp only [List.map_cons, List.sum_cons]; obtain ⟨u, hu, hlt⟩ := hx
  rcases List.mem_cons.mp hu with q | q
  ·subst q
   omega
  ·have := sum_lt r f h ⟨u, q, hlt⟩
   omega
/-- A step makes the sum of the labels less: the loop ends. -/
theorem step_sum {l : List Nat} {i k : Nat} (hi : i < l.length) (hk : k < l.length) (hne : lab l i ≠ lab l k) : (stepL l (lab l i) (lab l k)).sum < l.sum := by
 have mem : ∀ a, a < l.length → lab l a ∈ l := fun a ha => by
  simp only [lab, List.getD_eq_getElem?_getD, List.getElem?_eq_getElem ha, Option.getD_some]; exact List.getElem_mem ha
 refine sum_lt l _ (fun v => ?_) ⟨max (lab l i) (lab l k), ?_, ?_⟩
 ·split <;> omega
 ·rcases Nat.le_total (lab l i) (lab l k) with q | q
  ·rw [Nat.max_eq_right q]; exact mem k hk
  ·rw [Nat.max_eq_left q]; exact mem i hi
 ·rw [if_pos rfl]
  omega
end Go.Proofs.Ytahcpappailjgaa.LabP

set_option linter.unusedVariables false
namespace Go.Proofs.Ytahcpappailjgaa.MgL
open Go.Proofs.Ytahcpappailjgaa.LabP
structure Pos (n1 n : Nat) (a b : Nat → Int) : Prop where
 hn : n1 ≤ n
 hab : ∀ k, k < n → a k ≤ b k
 ho : ∀ i j, i < j → j < n1 → b i ≤ a j
 ht : ∀ i j, n1 ≤ i → i < j → j < n → b i ≤ a j
def touch (n1 n : Nat) (a b : Nat → Int) (i k : Nat) : Prop := i < n1 ∧ n1 ≤ k ∧ k < n ∧ a k ≤ b i ∧ a i ≤ b k
def prec (n1 : Nat) (a b : Nat → Int) (i j : Nat) : Prop := ((i < n1 ↔ j < n1) ∧ i < j) ∨ (¬ (i < n1 ↔ j < n1) ∧ b i < a j)
structure Done (n1 n : Nat) (a b : Nat → Int) (g : List Nat) : Prop where
 len : g.length = n
 lb : Lab (touch n1 n a b) g
 closed : ∀ i k, touch n1 n a b i k → lab g i = lab g k
variable {n1 n : Nat} {a b : Nat → Int} {g : List Nat}
theorem prec_total (hP : Pos n1 n a b) (hD : Done n1 n a b g) {i j : Nat} (hi : i < n) (hj : j < n) (h : lab g i ≠ lab g j) : prec n1 a b i j ∨ prec n1 a b j i := by
 have hij : i ≠ j := fun e => h (by rw [e])
 unfold prec; by_cases c : (i < n1 ↔ j < n1)
 ·omega
 ·have h1 : ¬ touch n1 n a b i j := fun t => h (hD.closed i j t)
  have h2 : ¬ touch n1 n a b j i := fun t => h (hD.closed j i t).symm
  unfold touch at h1 h2
  omega
theorem prec_asym (hP : Pos n1 n a b) {i j : Nat} (hi : i < n) (hj : j < n) (h : prec n1 a b i j) : ¬ prec n1 a b j i := by
 have h1 := hP.hab i hi; have h2 := hP.hab j hj; unfold prec at *
 omega
theorem prec_step (hP : Pos n1 n a b) (hD : Done n1 n a b g) {i k j : Nat} (ht : touch n1 n a b i k) (hj : j < n) (h : lab g j ≠ lab g i) : (prec n1 a b i j → prec n1 a b k j) ∧ (prec n1 a b j i → prec n1 a b j k) := by
 have hl := hD.closed i k ht
 have h1 : ¬ touch n1 n a b j k := fun t => h ((hD.closed j k t).trans hl.symm)
 have h2 : ¬ touch n1 n a b i j := fun t => h (hD.closed i j t).symm
 have hjk : j ≠ k := fun e => h (by rw [e, hl])
 have hji : j ≠ i := fun e => h (by rw [e])
 unfold touch at *; have e1 := hP.hab i (by omega); have e2 := hP.hab j hj; have e3 := hP.hab k (by omega); have o1 := hP.ho i j; have o2 := hP.ho j i; have t1 := hP.ht j k; have t2 := hP.ht k j; unfold prec
 constructor
 ·intro hp; by_cases c : j < n1
  ·have := o1
   omega
  ·have := t1
   omega
 ·intro hp; by_cases c : j < n1
  ·have := o2
   omega
  ·have := t2
   omega
theorem lt_of_touch (hP : Pos n1 n a b) {i k : Nat} (h : touch n1 n a b i k) : i < n ∧ k < n := by
 have := hP.hn; unfold touch at h
 omega
theorem prec_touch (hP : Pos n1 n a b) (hD : Done n1 n a b g) {i k j : Nat} (ht : touch n1 n a b i k) (hj : j < n) (h : lab g j ≠ lab g i) : (prec n1 a b i j ↔ prec n1 a b k j) ∧ (prec n1 a b j i ↔ prec n1 a b j k) := by
 obtain ⟨s1, s2⟩ := prec_step hP hD ht hj h; obtain ⟨li, lk⟩ := lt_of_touch hP ht; have hl := hD.closed i k ht; refine ⟨⟨s1, fun q => ?_⟩, ⟨s2, fun q => ?_⟩⟩
 ·rcases prec_total hP hD li hj (fun e => h e.symm) with c | c
  ·exact c
  ·exact absurd (s2 c) (prec_asym hP lk hj q)
 ·rcases prec_total hP hD li hj (fun e => h e.symm) with c | c
  ·exact absurd (s1 c) (prec_asym hP hj lk q)
  ·exact c
theorem prec_conn (hP : Pos n1 n a b) (hD : Done n1 n a b g) {i k : Nat} (hc : Conn (touch n1 n a b) i k) : lab g i = lab g k ∧ ∀ j, j < n → lab g j ≠ lab g i → (prec n1 a b i j ↔ prec n1 a b k j) ∧ (prec n1 a b j i ↔ prec n1 a b j k) := by
 induction hc with
 | refl => exact ⟨rfl, fun _ _ _ => ⟨Iff.rfl, Iff.rfl⟩⟩
 | symm _ ih => exact ⟨ih.1.symm, fun j hj h => ⟨(ih.2 j hj (by rw [ih.1]; exact h)).1.symm, (ih.2 j hj (by rw [ih.1]; exact h)).2.symm⟩⟩
 | trans _ _ i1 i2 => exact ⟨i1.1.trans i2.1, fun j hj h => ⟨(i1.2 j hj h).1.trans (i2.2 j hj (by rw [← i1.1]; exact h)).1, (i1.2 j hj h).2.trans (i2.2 j hj (by rw [← i1.1]; exact h)).2⟩⟩
 | of q => exact ⟨hD.closed _ _ q, fun j hj h => prec_touch hP hD q hj h⟩
/-- All of one class stands to all of another one as one of the one stands to one of the other. -/
theorem prec_class (hP : Pos n1 n a b) (hD : Done n1 n a b g) {i i' j j' : Nat} (hi : i < n) (hi' : i' < n) (hj : j < n) (hj' : j' < n) (ei : lab g i = lab g i') (ej : lab g j = lab g j') (h : lab g i ≠ lab g j) (hp : prec n1 a b i j) : prec n1 a b i' j' := by
 have hl := hD.len; have c1 := prec_conn hP hD (hD.lb.conn i i' (by omega) (by omega) ei); have c2 := prec_conn hP hD (hD.lb.conn j j' (by omega) (by omega) ej); have p1 := (c1.2 j hj (fun e => h e.symm)).1.mp hp; exact (c2.2 i' hi' (fun e => h (ei.trans e))).2.mp p1
theorem prec_le (hP : Pos n1 n a b) {i j : Nat} (hi : i < n) (hj : j < n) (hp : prec n1 a b i j) : a i ≤ a j ∧ b i ≤ b j ∧ (¬ (i < n1 ↔ j < n1) → b i < a j) := by
 have h1 := hP.hab i hi; have h2 := hP.hab j hj; have h3 := hP.ho i j; have h4 := hP.ht i j; unfold prec at hp
 by_cases c : j < n1 <;> omega
end Go.Proofs.Ytahcpappailjgaa.MgL

namespace Go.Proofs.Ytahcpappailjgaa.SortP
variable {α : Type}
/-! ### swaps -/
def swp (d : List α) (i j : Nat) (x y : α) : List α := (d.set i y).set j x
theorem swp_split (P M Q : List α) (x y : α) : swp (P ++ x :: (M ++ y :: Q)) P.length (P.length + 1 + M.length) x y = P ++ y :: (M ++ x :: Q) := by
 unfold swp; rw [List.set_append_right _ _ (Nat.le_refl _), Nat.sub_self, List.set_cons_zero, List.set_append_right _ _ (by omega)]; rw [show P.length + 1 + M.length - P.length = M.length + 1 by omega, List.set_cons_succ, List.set_append_right _ _ (Nat.le_refl _), Nat.sub_self, List.set_cons_zero]
/-- The other order of the two indices. -/
theorem swp_split' (P M Q : List α) (x y : α) : swp (P ++ x :: (M ++ y :: Q)) (P.length + 1 + M.length) P.length y x = P ++ y :: (M ++ x :: Q) := by
 unfold swp; rw [List.set_append_right _ _ (by omega), show P.length + 1 + M.length - P.length = M.length + 1 by omega, List.set_cons_succ, List.set_append_right _ _ (Nat.le_refl _), Nat.sub_self, List.set_cons_zero]; rw [List.set_append_right _ _ (Nat.le_refl _), Nat.sub_self, List.set_cons_zero]
theorem get_mid (P : List α) (x : α) (Q : List α) : (P ++ x :: Q)[P.length]? = some x := by
 rw [List.getElem?_append_right (Nat.le_refl _), Nat.sub_self, List.getElem?_cons_zero]
theorem split_at (l : List α) (i : Nat) (h : i < l.length) : l = l.take i ++ l[i] :: l.drop (i + 1) := by
 rw [← List.drop_eq_getElem_cons h, List.take_append_drop]
/-! ### order -/
section
variable (κ : α → Int) (tag : α → Nat)
def lt (x y : α) : Prop := κ x < κ y ∨ κ x = κ y ∧ tag x < tag y
theorem lt_trans {x y z : α} (h : lt κ tag x y) (k : lt κ tag y z) : lt κ tag x z := by
 unfold lt at *
 omega
theorem lt_of_not {x z : α} (ht : tag z < tag x) (h : ¬ κ x < κ z) : lt κ tag z x := by
 unfold lt
 omega
theorem lt_of {x z : α} (h : κ x < κ z) : lt κ tag x z := .inl h
abbrev Srt (l : List α) : Prop := l.Pairwise (lt κ tag)
variable {κ tag}
/-- Two lists in order with the same elements are the same. -/
theorem srt_eq : ∀ {l m : List α}, Srt κ tag l → Srt κ tag m → l.Perm m → l = m
 | [], m, _, _, h => (List.Perm.nil_eq h)
 | x :: l, [], _, _, h => absurd h.length_eq (by simp)
 | x :: l, y :: m, hl, hm, h => by
  have hx := List.pairwise_cons.mp hl; have hy := List.pairwise_cons.mp hm
  have e : x = y := by
   rcases List.mem_cons.mp (h.mem_iff.mp List.mem_cons_self) with q | q
   ·exact q
   ·rcases List.mem_cons.mp (h.mem_iff.mpr (List.mem_cons_self (a := y) (l := m))) with q2 | q2
    ·exact q2.symm
    ·have h1 := hy.1 x q; have h2 := hx.1 y q2; have h3 := lt_trans κ tag h1 h2; unfold lt at h3
     omega
  subst e; rw [srt_eq hx.2 hy.2 (List.perm_cons x |>.mp h)]
/-- What is behind the last of a row in order is behind all of it. -/
theorem all_lt_of_last {l : List α} {x : α} (h : Srt κ tag l) (hx : ∀ z, l.getLast? = some z → lt κ tag z x) : ∀ y ∈ l, lt κ tag y x := by
 intro y hy
 have hne : l ≠ [] := fun q => by rw [q] at hy; cases hy
 have hl := hx _ (List.getLast?_eq_some_getLast hne); have hsp : l = l.dropLast ++ [l.getLast hne] := (List.dropLast_concat_getLast hne).symm; rw [hsp] at hy h
 rcases List.mem_append.mp hy with q | q
 ·exact lt_trans κ tag ((List.pairwise_append.mp h).2.2 y q _ (List.mem_singleton.mpr rfl)) hl
 ·rw [List.mem_singleton.mp q]; exact hl
theorem all_lt_of_head {l : List α} {x : α} (h : Srt κ tag l) (hx : ∀ z, l.head? = some z → lt κ tag x z) : ∀ y ∈ l, lt κ tag x y := by
 intro y hy
 cases l with
 | nil => cases hy
 | cons z r =>
  have h1 := hx z rfl
  rcases List.mem_cons.mp hy with q | q
  ·rw [q]; exact h1
  ·exact lt_trans κ tag h1 ((List.pairwise_cons.mp h).1 y q)
/-- An element goes into a row in order. -/
theorem ins_srt {P1 P2 : List α} {x : α} (h : Srt κ tag (P1 ++ P2)) (h1 : ∀ y ∈ P1, lt κ tag y x) (h2 : ∀ y ∈ P2, lt κ tag x y) : Srt κ tag (P1 ++ x :: P2) := by
 have hh := List.pairwise_append.mp h; refine List.pairwise_append.mpr ⟨hh.1, List.pairwise_cons.mpr ⟨h2, hh.2.1⟩, fun a ha b hb => ?_⟩
 rcases List.mem_cons.mp hb with q | q
 ·rw [q]; exact h1 a ha
 ·exact hh.2.2 a ha b q
theorem ins_perm (P1 P2 : List α) (x : α) : (P1 ++ x :: P2).Perm (x :: (P1 ++ P2)) := List.perm_middle
/-- Two rows in order, cut so that what is ahead is less than what is behind. -/
theorem sym_lt {L1 L2 R1 R2 : List α} (hL : Srt κ tag (L1 ++ L2)) (hR : Srt κ tag (R1 ++ R2))
  (h1 : ∀ x y, L1.getLast? = some x → R2.head? = some y → lt κ tag x y) (h2 : ∀ x y, R1.getLast? = some x → L2.head? = some y → lt κ tag x y) :
  ∀ x ∈ L1 ++ R1, ∀ y ∈ L2 ++ R2, lt κ tag x y := by
 have pl := List.pairwise_append.mp hL; have pr := List.pairwise_append.mp hR
 have A : ∀ (A B : List α), Srt κ tag A → Srt κ tag B → (∀ x y, A.getLast? = some x → B.head? = some y → lt κ tag x y) → ∀ x ∈ A, ∀ y ∈ B, lt κ tag x y := by
  intro A B hA hB h x hx y hy
  have hne : B ≠ [] := fun q => by rw [q] at hy; cases hy
  obtain ⟨z, r, e⟩ := List.exists_cons_of_ne_nil hne; have h3 := all_lt_of_last (x := z) hA (fun w hw => h w z hw (by rw [e]; rfl)) x hx; subst e
  rcases List.mem_cons.mp hy with q | q
  ·rw [q]; exact h3
  ·exact lt_trans κ tag h3 ((List.pairwise_cons.mp hB).1 y q)
 intro x hx y hy
 rcases List.mem_append.mp hx with qx | qx <;> rcases List.mem_append.mp hy with qy | qy
 ·exact pl.2.2 x qx y qy
 ·exact A L1 R2 pl.1 pr.2.1 h1 x qx y qy
 ·exact A R1 L2 pr.1 pl.2.1 h2 x qx y qy
 ·exact pr.2.2 x qx y qy
theorem sym_join {L1 L2 R1 R2 S1 S2 : List α} (p1 : S1.Perm (L1 ++ R1)) (p2 : S2.Perm (L2 ++ R2)) (s1 : Srt κ tag S1) (s2 : Srt κ tag S2) (h : ∀ x ∈ L1 ++ R1, ∀ y ∈ L2 ++ R2, lt κ tag x y) :
  Srt κ tag (S1 ++ S2) ∧ (S1 ++ S2).Perm ((L1 ++ L2) ++ (R1 ++ R2)) := by
 refine ⟨List.pairwise_append.mpr ⟨s1, s2, fun a ha b hb => h a (p1.mem_iff.mp ha) b (p2.mem_iff.mp hb)⟩, (p1.append p2).trans ?_⟩; rw [List.append_assoc, List.append_assoc]; refine List.Perm.append_left L1 ?_; rw [← List.append_assoc, ← List.append_assoc]; exact List.Perm.append_right R2 List.perm_append_comm
end
/-! ### two ranges change places, element by element -/
/-- So many elements of P and Q have changed places. -/
def swr (X P M Q Y : List α) (i : Nat) : List α := (X ++ Q.take i) ++ (P.drop i ++ (M ++ P.take i) ++ (Q.drop i ++ Y))
theorem swr_open {X P M Q Y : List α} {i : Nat} (h : i < P.length) (hq : i < Q.length) : swr X P M Q Y i = (X ++ Q.take i) ++ P[i] :: ((P.drop (i + 1) ++ (M ++ P.take i)) ++ Q[i] :: (Q.drop (i + 1) ++ Y)) := by
 unfold swr; rw [List.drop_eq_getElem_cons h, List.drop_eq_getElem_cons hq]; simp only [List.cons_append, List.append_assoc]
theorem swr_next {X P M Q Y : List α} {i : Nat} (h : i < P.length) (hq : i < Q.length) : swr X P M Q Y (i + 1) = (X ++ Q.take i) ++ Q[i] :: ((P.drop (i + 1) ++ (M ++ P.take i)) ++ P[i] :: (Q.drop (i + 1) ++ Y)) := by
 unfold swr; rw [List.take_succ_eq_append_getElem h, List.take_succ_eq_append_getElem hq]; simp only [List.cons_append, List.append_assoc, List.nil_append]
theorem swr_zero (X P M Q Y : List α) : swr X P M Q Y 0 = X ++ (P ++ (M ++ (Q ++ Y))) := by
 unfold swr; simp only [List.take_zero, List.drop_zero, List.append_nil, List.append_assoc]
theorem swr_end {X P M Q Y : List α} (h : P.length = Q.length) : swr X P M Q Y P.length = X ++ (Q ++ (M ++ (P ++ Y))) := by
 unfold swr; rw [List.take_of_length_le (Nat.le_of_eq h.symm), List.drop_length, List.take_length, h, List.drop_length]; simp only [List.nil_append, List.append_assoc]
theorem swr_step {X P M Q Y : List α} {i : Nat} (h : i < P.length) (hq : i < Q.length) (a b : Nat) (ha : a = X.length + i) (hb : b = X.length + P.length + M.length + i) :
  (swr X P M Q Y i)[a]? = some P[i] ∧ (swr X P M Q Y i)[b]? = some Q[i] ∧ swp (swr X P M Q Y i) a b P[i] Q[i] = swr X P M Q Y (i + 1) := by
 have e1 : (X ++ Q.take i).length = a := (by rw [List.length_append, List.length_take]; omega)
 have e2 : (X ++ Q.take i).length + 1 + (P.drop (i + 1) ++ (M ++ P.take i)).length = b := by
  simp only [List.length_append, List.length_take, List.length_drop]
  omega
 rw [swr_open h hq, swr_next h hq]; refine ⟨?_, ?_, ?_⟩
 ·have := get_mid (X ++ Q.take i) P[i] ((P.drop (i + 1) ++ (M ++ P.take i)) ++ Q[i] :: (Q.drop (i + 1) ++ Y))
  rwa [e1] at this
 ·have := get_mid ((X ++ Q.take i) ++ P[i] :: (P.drop (i + 1) ++ (M ++ P.take i))) Q[i] (Q.drop (i + 1) ++ Y); rw [show ((X ++ Q.take i) ++ P[i] :: (P.drop (i + 1) ++ (M ++ P.take i))).length = b by rw [← e2, List.length_append, List.length_cons]; omega] at this; rw [← this]; simp only [List.append_assoc, List.cons_append]
 ·have := swp_split (X ++ Q.take i) (P.drop (i + 1) ++ (M ++ P.take i)) (Q.drop (i + 1) ++ Y) P[i] Q[i]
  rwa [e1, show a + 1 + (P.drop (i + 1) ++ (M ++ P.take i)).length = b by rw [← e1]; exact e2] at this
end Go.Proofs.Ytahcpappailjgaa.SortP

set_option linter.unusedVariables false
namespace Go.Proofs.Ytahcpappailjgaa.Kx
open Go.RowKit Go.Proofs.YtahcpappailjgaaW.PrintWords
theorem Reps.cons {α : Type} {R : α → List Value → Prop} {size : Nat} {ps : List α} {cs c : List Value} {p : α} (hp : R p c) (hc : c.length = size) (h : Reps R size ps cs) : Reps R size (p :: ps) (c ++ cs) := by
 have h1 : Reps R size [p] c := by
  have := Reps.snoc (Reps.none R size) hp hc
  simpa using this
 have := Kd.reps_append h1 h
 simpa using this
theorem below_step {w w1 w2 : World} (h : Below w.heap.size w w1) (h2 : Below w1.heap.size w1 w2) : Below w.heap.size w w2 := h.trans (h2.mono h.size)
theorem Drawn0.below {w w1 : World} (h : Drawn0 w w1) : Below w.heap.size w w1 := by
 obtain ⟨n, rfl⟩ := h.out; exact pw_below_drewN (Below.refl _ _) n
end Go.Proofs.Ytahcpappailjgaa.Kx

set_option linter.unusedVariables false
set_option linter.unusedSimpArgs false
namespace Go.Proofs.Ytahcpappailjgaa.SortW
open Go Go.RowKit Go.Proofs.Ytahcpappailjgaa Go.Proofs.YtahcpappailjgaaW.PrintWords Go.Proofs.YtahcpappailjgaaW.PrintLast Go.Proofs.YtahcpappailjgaaW.PrintMore
open Go.Proofs.Ytahcpappailjgaa.SortP
/-- What a slice stands for, and how many cells the row has. -/
structure Ent (α : Type) where
 rel : α → Option Addr → Nat → Nat → Prop
 sz : Nat
instance {α : Type} : CoeFun (Ent α) (fun _ => α → Option Addr → Nat → Nat → Prop) := ⟨Ent.rel⟩
variable {α : Type} {E : Ent α}
/-- A row of slices in block g, that stand for the elements of d. -/
def Row (E : Ent α) (w : World) (g : Nat) (d : List α) : Prop :=
 ∃ arr : Array Value, w.heap[g]? = some (.cells arr 85 (0, 0)) ∧ arr.size = E.sz ∧ ∀ (i : Nat) (x : α), d[i]? = some x → ∃ A n c, arr[i]? = some (.slice A n c) ∧ E x A n c
section
variable {w w' : World} {g : Nat} {d : List α}
theorem Row.lt (h : Row E w g d) : g < w.heap.size := by
 obtain ⟨arr, h1, _⟩ := h; exact (Array.getElem?_eq_some_iff.1 h1).1
theorem Row.get (h : Row E w g d) {i : Nat} {x : α} (hx : d[i]? = some x) : ∃ A n c, w.cell? ⟨g, i, none⟩ = some (.slice A n c) ∧ E x A n c ∧ w.frozen? ⟨g, i, none⟩ = false := by
 obtain ⟨arr, h1, _, h2⟩ := h; obtain ⟨A, n, c, h3, h4⟩ := h2 i x hx; exact ⟨A, n, c, (Lib.cell_of_heap h1 i).trans h3, h4, Lib.frozen_of_heap h1 i⟩
theorem Row.same (h : Row E w g d) (hb : w'.heap[g]? = w.heap[g]?) : Row E w' g d := by
 obtain ⟨arr, h1, h2⟩ := h; exact ⟨arr, hb.trans h1, h2⟩
theorem Row.below (h : Row E w g d) (hb : Below w.heap.size w w') : Row E w' g d := h.same (hb.block g h.lt)
theorem Row.set (h : Row E w g d) {i : Nat} {x : α} {A : Option Addr} {n c : Nat} (hE : E x A n c) : Row E (w.setCell ⟨g, i, none⟩ (.slice A n c)) g (d.set i x) := by
 obtain ⟨arr, h1, hz, h2⟩ := h; refine ⟨_, Lib.heap_setCell_same (i := i) h1 (.slice A n c), by rw [Array.size_setIfInBounds]; exact hz, fun j y hy => ?_⟩; rw [List.getElem?_set] at hy; by_cases e : i = j
 ·subst e; rw [if_pos rfl] at hy
  split at hy
  ·rename_i hlt
   injection hy with hy; subst hy; obtain ⟨A', n', c', q, _⟩ := h2 i d[i] (List.getElem?_eq_getElem hlt); have hs := (Array.getElem?_eq_some_iff.1 q).1; refine ⟨A, n, c, ?_, hE⟩
   simp [hs]
  ·cases hy
 ·rw [if_neg e] at hy; obtain ⟨A', n', c', q, hq⟩ := h2 j y hy; refine ⟨A', n', c', ?_, hq⟩; rw [Array.getElem?_setIfInBounds_ne e]; exact q
theorem grown_set (i : Nat) (v : Value) (hg : g < w.heap.size) : w.grownBy (w.setCell ⟨g, i, none⟩ v) (some g) :=
 have hb := (Below.refl g w).setCell (p := ⟨g, i, none⟩) (Nat.le_refl _) v
 ⟨hb.os, hb.tape, hb.output, hb.size, fun k hk hn => Below.heap_setCell w ⟨g, i, none⟩ v k (fun e => hn (by rw [e]))⟩
theorem grown_of_below {row : Option Nat} (h : Below w.heap.size w w') : w.grownBy w' row := ⟨h.os, h.tape, h.output, h.size, fun k hk _ => h.block k hk⟩
theorem grown_trans {w1 w2 : World} {row : Option Nat} (h : w.grownBy w1 row) (k : w1.grownBy w2 row) : w.grownBy w2 row :=
 ⟨k.os.trans h.os, k.tape.trans h.tape, k.output.trans h.output, Nat.le_trans h.size k.size, fun i hi hn => (k.block i (Nat.lt_of_lt_of_le hi h.size) hn).trans (h.block i hi hn)⟩
theorem grown_drew {row : Option Nat} (h : w.grownBy w' row) : w.grownBy w'.drew row := ⟨h.os, h.tape, h.output, h.size, h.block⟩
theorem grown_set2 (i j : Nat) (u v : Value) (hg : g < w.heap.size) : w.grownBy ((w.setCell ⟨g, i, none⟩ u).setCell ⟨g, j, none⟩ v) (some g) := grown_trans (grown_set i u hg) (grown_set j v (Nat.lt_of_lt_of_le hg (grown_set i u hg).size))
theorem grown_refl (w : World) (row : Option Nat) : w.grownBy w row := grown_of_below (Below.refl _ _)
theorem Row.swap (h : Row E w g d) {i j : Nat} {x y : α} {A A' : Option Addr} {n c n' c' : Nat} (hx : E x A n c) (hy : E y A' n' c') : Row E ((w.setCell ⟨g, i, none⟩ (.slice A' n' c')).setCell ⟨g, j, none⟩ (.slice A n c)) g (swp d i j x y) := (h.set hy).set hx
end
set_option maxHeartbeats 8000000 in
set_option maxRecDepth 100000 in
theorem swapRange_ok (g cap L a b n : Nat) (fv : Value) (X P M Q Y : List α) (hPQ : P.length = Q.length) (ha : a = X.length) (hb : b = X.length + P.length + M.length) (hn : n = P.length) (hL : L = X.length + P.length + M.length + Q.length + Y.length) (hbig : L ≤ 1000000) (w : World) (hR : Row E w g (X ++ (P ++ (M ++ (Q ++ Y))))) :
  Calls Try.prog 97 #[.slice (some ⟨g, 0, none⟩) L cap, .int .i64 (a : Int), .int .i64 (b : Int), .int .i64 (n : Int), fv] w fun e w' => e = .returned (.tuple #[]) ∧ Row E w' g (X ++ (Q ++ (M ++ (P ++ Y)))) ∧ w.grownBy w' (some g) := by
 have HR := Aside0.mk hR; have HPQ := Aside0.mk hPQ; have HA := Aside0.mk ha; have HB := Aside0.mk hb; have HN := Aside0.mk hn; have HL := Aside0.mk hL; clear hR hPQ ha hb hn hL; go_enter Try.func97, Try.ntmps97; go_wp2_with fail
 go_loopg [10] n (fun kq v10 w' => ∃ i : Nat, v10 = .int .i64 (i : Int) ∧ Aside0 (i + kq = n) ∧ Aside0 (Row E w' g (swr X P M Q Y i)) ∧ Aside0 (w.grownBy w' (some g)))
 case atStart => exact ⟨0, rfl, ⟨by omega⟩, ⟨by rw [swr_zero]; exact HR.out⟩, ⟨grown_refl _ _⟩⟩
 case round =>
  clear HR; obtain ⟨i, rfl, HK, HR, HG⟩ := hrel; by_cases hlt : i < n
  ·have hp : i < P.length := (by have := HN.out; omega)
   have hq : i < Q.length := (by have := HPQ.out; omega)
   obtain ⟨s1, s2, s3⟩ := swr_step (X := X) (M := M) (Y := Y) hp hq (a + i) (b + i) (by have := HA.out; omega) (by have := HB.out; omega); obtain ⟨A1, n1, c1, x1, e1, f1⟩ := HR.out.get s1; obtain ⟨A2, n2, c2, x2, e2, f2⟩ := HR.out.get s2; have HS := Aside0.mk (HR.out.swap (i := a + i) (j := b + i) e1 e2)
   have hal : a + i < L := (by have := HL.out; have := HA.out; omega)
   have hbl : b + i < L := (by have := HL.out; have := HB.out; have := HPQ.out; omega)
   have hne : a + i ≠ b + i := (by have := HA.out; have := HB.out; omega)
   have i1 : IntKind.i64.wrap ((a : Int) + (i : Int)) = (a : Int) + (i : Int) := (by rw [i64_w]; unfold wrap64; omega)
   have i2 : IntKind.i64.wrap ((b : Int) + (i : Int)) = (b : Int) + (i : Int) := (by rw [i64_w]; unfold wrap64; omega)
   cases gk with
   | zero => exact absurd hlt (by have := HK.out; omega)
   | succ kq' =>
   go_upto_region 3 with fail
   go_wp2_with fail
   go_region
   all_goals
    go_wp2_with fail
    go_roundg kq'
    case measure => omega
    case rel => exact ⟨i + 1, by go_num, ⟨by have := HK.out; omega⟩, ⟨by rw [← s3]; exact HS.out.same rfl⟩, ⟨grown_drew (grown_trans HG.out (grown_set2 _ _ _ _ HR.out.lt))⟩⟩
  ·have HE : i = P.length := (by have := HK.out; have := HN.out; omega)
   have h := HR.out; rw [HE, swr_end HPQ.out] at h; have HF := Aside0.mk h; clear h HE; go_wp2_with fail; go_end0; exact ⟨rfl, HF.out, HG.out⟩
set_option maxHeartbeats 8000000 in
set_option maxRecDepth 100000 in
theorem rotate_ok (g cap L a m b : Nat) (fv : Value) (X U V Y : List α) (hU : 0 < U.length) (hV : 0 < V.length) (ha : a = X.length) (hm : m = X.length + U.length) (hb : b = X.length + U.length + V.length) (hL : L = X.length + U.length + V.length + Y.length) (hbig : L ≤ 1000000) (w : World) (hR : Row E w g (X ++ (U ++ (V ++ Y)))) :
  Calls Try.prog 96 #[.slice (some ⟨g, 0, none⟩) L cap, .int .i64 (a : Int), .int .i64 (m : Int), .int .i64 (b : Int), fv] w fun e w' => e = .returned (.tuple #[]) ∧ Row E w' g (X ++ (V ++ (U ++ Y))) ∧ w.grownBy w' (some g) := by
 have HR := Aside0.mk hR; have HA := Aside0.mk ha; have HM := Aside0.mk hm; have HB := Aside0.mk hb; have HL := Aside0.mk hL
 obtain ⟨T, hT⟩ : ∃ T, Aside0 (T = X ++ (V ++ (U ++ Y))) := ⟨_, ⟨rfl⟩⟩
 have i1 : IntKind.i64.wrap ((m : Int) - (a : Int)) = ((U.length : Nat) : Int) := (by rw [i64_w]; unfold wrap64; omega)
 have i2 : IntKind.i64.wrap ((b : Int) - (m : Int)) = ((V.length : Nat) : Int) := (by rw [i64_w]; unfold wrap64; omega)
 have HSW := Aside0.mk (@swapRange_ok α E); have HU := Aside0.mk hU; have HV := Aside0.mk hV; clear hR ha hm hb hL hU hV; go_enter Try.func96, Try.ntmps96; go_wp2_with fail
 go_loopg [10, 11] (U.length + V.length) (fun kq v10 v11 w' => ∃ (i j : Nat) (X' U' V' Y' : List α), v10 = .int .i64 (i : Int) ∧ v11 = .int .i64 (j : Int) ∧ Aside0 (i + j ≤ kq ∧ 0 < i ∧ 0 < j ∧ i = U'.length ∧ j = V'.length ∧ m = X'.length + U'.length ∧ L = X'.length + U'.length + V'.length + Y'.length) ∧ Aside0 (X' ++ (V' ++ (U' ++ Y')) = T) ∧ Aside0 (Row E w' g (X' ++ (U' ++ (V' ++ Y')))) ∧ Aside0 (w.grownBy w' (some g)))
 case atStart => exact ⟨U.length, V.length, X, U, V, Y, rfl, rfl, ⟨Nat.le_refl _, HU.out, HV.out, rfl, rfl, HM.out, HL.out⟩, ⟨hT.out.symm⟩, HR, ⟨grown_refl _ _⟩⟩
 case round =>
  clear HR i1 i2 HM HL; obtain ⟨i, j, X', U', V', Y', rfl, rfl, HK, HT, HR, HG⟩ := hrel; obtain ⟨k1, k2, k3, k4, k5, k6, k7⟩ := HK.out; have K := Aside0.mk (And.intro k4 (And.intro k5 (And.intro k6 k7)))
  have j1 : IntKind.i64.wrap ((m : Int) - (i : Int)) = ((m - i : Nat) : Int) := (by rw [i64_w]; unfold wrap64; omega)
  have hi1 : i ≤ 1000000 := (by omega)
  have hj1 : j ≤ 1000000 := (by omega)
  have hm1 : m ≤ 1000000 := (by omega)
  rcases Nat.lt_trichotomy i j with h | h | h
  ·have d1 : ((i : Int) != (j : Int)) = true := bne_iff_ne.mpr (by omega); have d2 : decide ((i : Int) > (j : Int)) = false := decide_eq_false (by omega)
   have j2 : IntKind.i64.wrap ((m : Int) + (j : Int)) = (m : Int) + (j : Int) := (by rw [i64_w]; unfold wrap64; omega)
   have j3 : IntKind.i64.wrap ((m : Int) + (j : Int) - (i : Int)) = ((m + j - i : Nat) : Int) := (by rw [i64_w]; unfold wrap64; omega)
   have j4 : IntKind.i64.wrap ((j : Int) - (i : Int)) = ((j - i : Nat) : Int) := (by rw [i64_w]; unfold wrap64; omega)
   have hV : V' = V'.take (j - i) ++ V'.drop (j - i) := (List.take_append_drop _ _).symm
   have l1 : (V'.take (j - i)).length = j - i := (by rw [List.length_take]; omega)
   have l2 : (V'.drop (j - i)).length = i := (by rw [List.length_drop]; omega)
   have HL1 := Aside0.mk l1; have HL2 := Aside0.mk l2; have hR1 := HR.out; have hT1 := HT.out; rw [hV, List.append_assoc] at hR1 hT1; have HC := Aside0.mk (HSW.out g cap L (m - i) (m + j - i) i fv X' U' (V'.take (j - i)) (V'.drop (j - i)) Y' (by omega) (by omega) (by omega) (by omega) (by omega) hbig wr hR1); have HT1 := Aside0.mk hT1; clear k1 k4 k5 k6 k7 l1 l2 hV hR1 hT1 HR HT
   cases gk with
   | zero => exact absurd h (by have := HK.out; omega)
   | succ kq' =>
   go_wp2_with (go_at_call 97; refine HC.out.mono ?_; rintro e w5 ⟨rfl, h5, g5⟩; have HR5 := Aside0.mk h5; have HG5 := Aside0.mk (grown_trans HG.out g5); clear h5 g5)
   go_roundg kq'
   case measure => omega
   case rel => exact ⟨i, j - i, X', V'.drop (j - i), V'.take (j - i), U' ++ Y', rfl, by go_num, ⟨by have := HK.out; have := HL1.out; have := HL2.out; rw [List.length_append]; omega⟩, ⟨HT1.out⟩, HR5, HG5⟩
  ·subst h
   have d1 : ((i : Int) != (i : Int)) = false := (by simp)
   have hR1 := HR.out; have HC := Aside0.mk (HSW.out g cap L (m - i) m i fv X' U' [] V' Y' (by omega) (by omega) (by simp; omega) (by omega) (by simp; omega) hbig wr hR1); clear k1 k4 k5 k6 k7 hR1 HR
   go_wp2_with (go_at_call 97; refine HC.out.mono ?_; rintro e w5 ⟨rfl, h5, g5⟩; have HR5 := Aside0.mk h5; have HG5 := Aside0.mk (grown_trans HG.out g5); clear h5 g5)
   go_end0; refine ⟨rfl, ?_, HG5.out⟩; rw [← hT.out, ← HT.out]; exact HR5.out
  ·have d1 : ((i : Int) != (j : Int)) = true := bne_iff_ne.mpr (by omega); have d2 : decide ((i : Int) > (j : Int)) = true := decide_eq_true (by omega)
   have j4 : IntKind.i64.wrap ((i : Int) - (j : Int)) = ((i - j : Nat) : Int) := (by rw [i64_w]; unfold wrap64; omega)
   have hU : U' = U'.take j ++ U'.drop j := (List.take_append_drop _ _).symm
   have l1 : (U'.take j).length = j := (by rw [List.length_take]; omega)
   have l2 : (U'.drop j).length = i - j := (by rw [List.length_drop]; omega)
   have HL1 := Aside0.mk l1; have HL2 := Aside0.mk l2; have hR1 := HR.out; have hT1 := HT.out; rw [hU, List.append_assoc] at hR1 hT1; have HC := Aside0.mk (HSW.out g cap L (m - i) m j fv X' (U'.take j) (U'.drop j) V' Y' (by omega) (by omega) (by omega) (by omega) (by omega) hbig wr hR1); have HT1 := Aside0.mk hT1; clear k1 k4 k5 k6 k7 l1 l2 hU hR1 hT1 HR HT
   cases gk with
   | zero => exact absurd h (by have := HK.out; omega)
   | succ kq' =>
   go_wp2_with (go_at_call 97; refine HC.out.mono ?_; rintro e w5 ⟨rfl, h5, g5⟩; have HR5 := Aside0.mk h5; have HG5 := Aside0.mk (grown_trans HG.out g5); clear h5 g5)
   go_roundg kq'
   case measure => omega
   case rel => exact ⟨i - j, j, X' ++ V', U'.drop j, U'.take j, Y', by go_num, rfl, ⟨by have := HK.out; have := HL1.out; have := HL2.out; rw [List.length_append]; omega⟩, ⟨by rw [List.append_assoc]; exact HT1.out⟩, ⟨by rw [List.append_assoc]; exact HR5.out⟩, HG5⟩
/-- What the comparison answers: the order of the keys. -/
def CmpOK (E : Ent α) (κ : α → Int) (g : Nat) (w0 : World) : Prop := ∀ (w : World) (x y : α) (A : Option Addr) (n c : Nat) (A' : Option Addr) (n' c' : Nat), w0.grownBy w (some g) → E x A n c → E y A' n' c' →
 Calls Try.prog 70 #[.slice A n c, .slice A' n' c'] w fun e w' => ∃ z : Int, e = .returned (.int .i64 z) ∧ (z < 0 ↔ κ x < κ y) ∧ Below w.heap.size w w'
set_option maxHeartbeats 16000000 in
set_option maxRecDepth 100000 in
theorem insertion_ok (κ : α → Int) (tag : α → Nat) (g cap L a b : Nat) (X S Y : List α) (ha : a = X.length) (hb : b = X.length + S.length) (hL : L = X.length + S.length + Y.length) (hbig : L ≤ 1000000) (w0 w : World) (hC : CmpOK E κ g w0) (hW : w0.grownBy w (some g)) (htag : S.Pairwise fun x y => tag x < tag y) (hR : Row E w g (X ++ (S ++ Y))) :
  Calls Try.prog 94 #[.slice (some ⟨g, 0, none⟩) L cap, .int .i64 (a : Int), .int .i64 (b : Int), .func (.func 70) #[] #[]] w fun e w' => e = .returned (.tuple #[]) ∧ (∃ S', S'.Perm S ∧ Srt κ tag S' ∧ Row E w' g (X ++ (S' ++ Y))) ∧ w.grownBy w' (some g) := by
 have HR := Aside0.mk hR; have HA := Aside0.mk ha; have HB := Aside0.mk hb; have HL := Aside0.mk hL; have HC := Aside0.mk hC; have HW := Aside0.mk hW; have HT := Aside0.mk htag
 have i0 : IntKind.i64.wrap ((a : Int) + 1) = ((a + 1 : Nat) : Int) := (by rw [i64_w]; unfold wrap64; omega)
 clear hR hC hW htag ha hb hL; go_enter Try.func94, Try.ntmps94; go_wp2_with fail; clear i0
 go_loopg [8] S.length (fun kq v8 w' => ∃ (i k : Nat) (T : List α), v8 = .int .i64 (i : Int) ∧ Aside0 (i = a + k) ∧ Aside0 (S.length ≤ k + kq ∧ 1 ≤ k ∧ k ≤ S.length + 1) ∧ Aside0 (T.Perm (S.take k) ∧ Srt κ tag T) ∧ Aside0 (Row E w' g (X ++ (T ++ (S.drop k ++ Y)))) ∧ Aside0 (w.grownBy w' (some g)))
 case atStart =>
  refine ⟨a + 1, 1, S.take 1, rfl, ⟨rfl⟩, ⟨by omega, by omega, by omega⟩, ⟨List.Perm.refl _, ?_⟩, ⟨?_⟩, ⟨grown_refl _ _⟩⟩
  ·cases S with
   | nil => exact List.Pairwise.nil
   | cons x r => exact List.pairwise_singleton _ x
  ·rw [← List.append_assoc (S.take 1), List.take_append_drop]; exact HR.out
 case round =>
  clear HR; obtain ⟨i, k, T, rfl, HI, HK, HP, HR, HG⟩ := hrel; have hik := HI.out; obtain ⟨k1, k2, k3⟩ := HK.out; by_cases hlt : k < S.length
  ·have d1 : i < b := (by have := HA.out; have := HB.out; omega)
   have hR1 := HR.out; rw [List.drop_eq_getElem_cons hlt] at hR1
   have htl : T.length = k := (by rw [HP.out.1.length_eq, List.length_take]; omega)
   have hts : ∀ y ∈ T, tag y < tag S[k] := by
    intro y hy; have hy2 := HP.out.1.mem_iff.mp hy; have h2 := HT.out; rw [← List.take_append_drop k S, List.drop_eq_getElem_cons hlt] at h2; exact (List.pairwise_append.mp h2).2.2 y hy2 _ List.mem_cons_self
   have hpm : ∀ T' : List α, T'.Perm (S[k] :: T) → T'.Perm (S.take (k + 1)) := by
    intro T' h; rw [List.take_succ_eq_append_getElem hlt]; exact h.trans ((List.Perm.cons _ HP.out.1).trans (List.perm_append_singleton _ _).symm)
   have HTL := Aside0.mk htl; have HTS := Aside0.mk hts; have HPM := Aside0.mk hpm; have HR1 := Aside0.mk hR1; generalize S[k] = x at *; clear hR1 htl hts hpm HR
   cases gk with
   | zero => exact absurd hlt (by have := HK.out; omega)
   | succ kq' =>
   have hvi : ((i : Nat) : Int) = ((a + T.length : Nat) : Int) := (by have := HTL.out; omega)
   have HVI := Aside0.mk hvi
   have hib : i ≤ 1000000 := (by have := HB.out; have := HL.out; omega)
   clear hik hvi; go_wp2_with fail
   go_loopg [9] T.length (fun kq v9 w' => ∃ (P1 P2 : List α), v9 = .int .i64 ((a + P1.length : Nat) : Int) ∧ Aside0 (P1.length = kq) ∧ Aside0 (P1 ++ P2 = T) ∧ Aside0 (∀ y ∈ P2, lt κ tag x y) ∧ Aside0 (Row E w' g (X ++ (P1 ++ x :: (P2 ++ (S.drop (k + 1) ++ Y))))) ∧ Aside0 (w.grownBy w' (some g)))
   case atStart => exact ⟨T, [], by rw [HVI.out], ⟨rfl⟩, ⟨List.append_nil _⟩, ⟨by simp⟩, HR1, HG⟩
   case round =>
    clear HR1 HG; obtain ⟨P1, P2, rfl, HQ, HE, HX, HR, HG⟩ := hrel; have hq := HQ.out
    have hpl : P1.length ≤ k := (by have h1 := congrArg List.length HE.out; rw [List.length_append] at h1; have := HTL.out; omega)
    have hxk : X.length = a := HA.out.symm
    have hbk : a + k < L := (by have := HB.out; have := HL.out; omega)
    have fin : (∀ y ∈ P1, lt κ tag y x) → (P1 ++ x :: P2).Perm (S.take (k + 1)) ∧ Srt κ tag (P1 ++ x :: P2) := fun h1 => by
     have h2 := HE.out; refine ⟨HPM.out _ ?_, ins_srt (by rw [h2]; exact HP.out.2) h1 HX.out⟩; rw [← h2]; exact ins_perm P1 P2 x
    have HF := Aside0.mk fin; clear fin
    have hcc : P1 = [] ∨ ∃ P0 z, P1 = P0 ++ [z] := by
     rcases List.eq_nil_or_concat P1 with h | ⟨P0, z, h⟩
     ·exact .inl h
     ·exact .inr ⟨P0, z, by rw [h, List.concat_eq_append]⟩
    rcases hcc with rfl | ⟨P0, z, rfl⟩
    ·simp only [List.length_nil, Nat.add_zero]; have hf := HF.out (by simp); have HFF := Aside0.mk hf; clear hf hq hpl
     go_upto_region 4 with fail
     go_wp2_with fail
     go_region
     all_goals
      go_wp2_with fail
      go_roundg kq'
      case measure => omega
      case rel => exact ⟨i + 1, k + 1, x :: P2, by go_num, ⟨by have h2 : i = a + k := HI.out; omega⟩, ⟨by have := HK.out; omega⟩, HFF, ⟨Row.same (w := wr) (by have h := HR.out; simpa using h) rfl⟩, ⟨grown_drew HG.out⟩⟩
    ·have e1 : (P0 ++ [z]).length = P0.length + 1 := (by simp)
     obtain ⟨q, hqq⟩ : ∃ q, q = a + P0.length := ⟨_, rfl⟩
     obtain ⟨j, hjj⟩ : ∃ j, j = q + 1 := ⟨_, rfl⟩
     have e2 : a + (P0 ++ [z]).length = j := (by rw [e1]; omega)
     rw [e2]; have hR1 := HR.out; simp only [List.append_assoc, List.singleton_append] at hR1
     have g1 : (X ++ (P0 ++ z :: x :: (P2 ++ (S.drop (k + 1) ++ Y))))[q]? = some z := by
      have := get_mid (X ++ P0) z (x :: (P2 ++ (S.drop (k + 1) ++ Y))); rw [List.length_append, hxk, ← hqq, List.append_assoc] at this; exact this
     have g2 : (X ++ (P0 ++ z :: x :: (P2 ++ (S.drop (k + 1) ++ Y))))[j]? = some x := by
      have := get_mid (X ++ P0 ++ [z]) x (P2 ++ (S.drop (k + 1) ++ Y)); rw [List.length_append, List.length_append, hxk, ← hqq, List.append_assoc, List.append_assoc, List.length_singleton, ← hjj] at this; exact this
     have hsw : swp (X ++ (P0 ++ z :: x :: (P2 ++ (S.drop (k + 1) ++ Y)))) j q x z = X ++ (P0 ++ x :: (z :: P2 ++ (S.drop (k + 1) ++ Y))) := by
      have := swp_split' (X ++ P0) [] (P2 ++ (S.drop (k + 1) ++ Y)) z x; rw [List.length_append, hxk, ← hqq, List.append_assoc, List.append_assoc, List.length_nil, Nat.add_zero, ← hjj] at this; exact this
     obtain ⟨A1, n1, c1, x1, E1, f1⟩ := Row.get hR1 g1; obtain ⟨A2, n2, c2, x2, E2, f2⟩ := Row.get hR1 g2
     have hzT : z ∈ T := (by rw [← HE.out]; simp)
     have HZT := Aside0.mk (HTS.out z hzT)
     have hqa : a < j := (by omega)
     have hql : j < L := (by omega)
     have hqn : q ≠ j := (by omega)
     have ew : IntKind.i64.wrap ((j : Int) - 1) = (q : Int) := (by rw [i64_w]; unfold wrap64; omega)
     have hql2 : q < L := (by omega)
     have HJJ := Aside0.mk hjj; have HG1 := Aside0.mk g1; have HG2 := Aside0.mk g2; have HEE := Aside0.mk (And.intro E1 E2); have HS := Aside0.mk (Row.swap (i := j) (j := q) hR1 E2 E1); have HCC := Aside0.mk (fun (w2 : World) (hb : Below wr.heap.size wr w2) => HC.out w2 x z A2 n2 c2 A1 n1 c1 (grown_trans HW.out (grown_trans HG.out (grown_of_below hb))) E2 E1); have HX2 := Aside0.mk (fun (w2 : World) (hb : Below wr.heap.size wr w2) => (And.intro ((hb.cell (World.block_lt_of_cell? wr _ x1)).trans x1) ((hb.cell (World.block_lt_of_cell? wr _ x2)).trans x2) : w2.cell? ⟨g, q, none⟩ = some (.slice A1 n1 c1) ∧ w2.cell? ⟨g, j, none⟩ = some (.slice A2 n2 c2))); have HR1 := Aside0.mk hR1; have HSW := Aside0.mk hsw; have HQQ := Aside0.mk hqq; have HE1 := Aside0.mk e1; clear hjj e1 hR1 g1 g2 hsw hzT hqq hq hpl E1 E2 hxk e2 x1 x2 f1 f2; by_cases hκ : κ x < κ z
     ·go_upto_region 4 with fail
      go_wp2_with fail
      go_region_held3 (fun w' => w'.cell? ⟨g, q, none⟩ = some (.slice A1 n1 c1) ∧ w'.cell? ⟨g, j, none⟩ = some (.slice A2 n2 c2)) (first | exact HX2.out _ (below_drew1 (Below.refl _ _)) | exact HX2.out _ HY5.out) (first | (go_simp; go_at_call 70; refine (HCC.out _ (below_drew1 (Below.refl _ _))).mono ?_; rintro e w5 ⟨zz, rfl, hz, hb⟩; have HY5 := Aside0.mk (Kx.below_step (below_drew1 (Below.refl wr.heap.size wr)) hb); have dz : decide (zz < 0) = true := decide_eq_true (hz.mpr hκ); clear hz hb))
      all_goals
       obtain ⟨s1, s2⟩ := HX2.out _ HY5.out; obtain ⟨_, _, _, _, _, f1⟩ := Row.get (HR1.out.below HY5.out) HG1.out; obtain ⟨_, _, _, _, _, f2⟩ := Row.get (HR1.out.below HY5.out) HG2.out; have HS5 := Aside0.mk (Row.swap (i := j) (j := q) (HR1.out.below HY5.out) HEE.out.2 HEE.out.1); have HLT := Aside0.mk (HR1.out.below HY5.out).lt
       cases gk with
       | zero => exact absurd HQ.out (by rw [HE1.out]; omega)
       | succ kq2 =>
       go_upto_region 6 with fail
       go_wp2_with fail
       go_region
       all_goals
        go_wp2_with fail
        go_roundg kq2
        case measure => omega
        case rel => exact ⟨P0, z :: P2, by rw [← HQQ.out], ⟨by have := HQ.out; rw [HE1.out] at this; omega⟩, ⟨by rw [← HE.out]; simp⟩, ⟨fun y hy => (List.mem_cons.mp hy).elim (fun e => by rw [e]; exact lt_of κ tag hκ) (fun h => HX.out y h)⟩, ⟨by have h := HS5.out; rw [HSW.out] at h; exact Row.same h rfl⟩, ⟨grown_drew (grown_trans (grown_trans HG.out (grown_of_below HY5.out)) (grown_set2 _ _ _ _ HLT.out))⟩⟩
     ·have HKK := Aside0.mk hκ; clear hκ
      go_upto_region 4 with fail
      go_wp2_with fail
      go_region_held3 (fun w' => w'.cell? ⟨g, q, none⟩ = some (.slice A1 n1 c1) ∧ w'.cell? ⟨g, j, none⟩ = some (.slice A2 n2 c2)) (first | exact HX2.out _ (below_drew1 (Below.refl _ _)) | exact HX2.out _ HY5.out) (first | (go_simp; go_at_call 70; refine (HCC.out _ (below_drew1 (Below.refl _ _))).mono ?_; rintro e w5 ⟨zz, rfl, hz, hb⟩; have HY5 := Aside0.mk (Kx.below_step (below_drew1 (Below.refl wr.heap.size wr)) hb); have dz : decide (zz < 0) = false := decide_eq_false (fun h => by have h2 := hz.mp h; have h3 := HKK.out; omega); clear hz hb))
      all_goals
       have HF2 := Aside0.mk (HF.out (all_lt_of_last (List.pairwise_append.mp (by rw [HE.out]; exact HP.out.2)).1 (fun w hw => by
        have e : z = w := (by simpa using hw)
        rw [← e]
        exact lt_of_not κ tag HZT.out (by have h3 := HKK.out; omega))))
       go_wp2_with fail
       go_roundg kq'
       case measure => omega
       case rel => exact ⟨i + 1, k + 1, (P0 ++ [z]) ++ x :: P2, by go_num, ⟨by have h2 : i = a + k := HI.out; omega⟩, ⟨by have := HK.out; omega⟩, HF2, ⟨by have h := HR.out.below HY5.out; simpa using h⟩, ⟨grown_trans HG.out (grown_of_below HY5.out)⟩⟩
  ·have d1 : ¬ i < b := (by have := HA.out; have := HB.out; omega)
   have hp := HP.out.1; rw [List.take_of_length_le (by omega)] at hp; have hr := HR.out; rw [List.drop_of_length_le (by omega), List.nil_append] at hr; have HF := Aside0.mk (And.intro hp hr); clear hp hr; go_wp2_with fail; go_end0; exact ⟨rfl, ⟨T, HF.out.1, HP.out.2, HF.out.2⟩, HG.out⟩
end Go.Proofs.Ytahcpappailjgaa.SortW

