/- What the claim's row needs of the seat's texts, part 3: put together by a program of this session (declarations that no text of the claim names are left out). -/
import Derived.IntWalk
import Derived.Test.YtahcpappailjgaaG2
namespace Go.Proofs.Ytahcpappailjgaa.P
open Go.RowKit Go.Proofs.YtahcpappailjgaaW.PrintWords Go.Proofs.YtahcpappailjgaaW.PrintLast Go.Proofs.YtahcpappailjgaaW.PrintMore
attribute [local go_sem] max2_int min2_int max_two min_two max_three min_three max_four min_four
set_option linter.unusedVariables false
set_option linter.unusedSimpArgs false

/-! ### marginalialaw04_alive: function 14 -/
def marginalialaw04_alive.f (k : Nat)  : Option (Bool) := (marginalialaw04_sample.f k).bind fun t309 => ((relex_Relex.f k t309 (([(⟨2, 3, (⟨#[120, 32, 121]⟩ : ByteArray)⟩ : S39)] : List (S39)))).bind fun bt315 => ((marginalialaw04_sample.f k).bind fun t321 => ((marginaliaref03_Lex.f k (⟨#[97, 32, 100, 32, 99]⟩ : ByteArray)).bind fun t324 => ((relex_Common.f k t321 t324).bind fun bt327 => ((marginalialaw04_sample.f k).bind fun t330 => ((relex_Line.f k t330 (([(⟨2, 3, (⟨#[120, 10, 121]⟩ : ByteArray)⟩ : S39)] : List (S39)))).bind fun bt336 => (if bt315.2.2.2 = 0 then ((marginaliaref03_Lex.f k (⟨#[97, 32, 120, 32, 121, 32, 99]⟩ : ByteArray)).bind fun t338 => ((marginaliaref03_Same.f k bt315.1 t338).bind fun t341 => (if t341 = true then (if bt315.2.1 ≤ 2 then (if bt315.2.2.1 ≤ 2 then (if bt327.2.2 = 0 then (if bt327.1 = 2 then (if bt327.2.1 = 2 then (if bt336.2 = 0 then (some (bt336.1 == 7)) else (some false)) else (some false)) else (some false)) else (some false)) else (some false)) else (some false)) else (some false)))) else (some false))))))))
theorem marginalialaw04_alive.mono : ∀ k, LeO (marginalialaw04_alive.f k ) (marginalialaw04_alive.f (k + 1) ) := by
 intro  k; unfold marginalialaw04_alive.f
 repeat' first
   | (with_reducible exact marginalialaw04_sample.mono _)
   | (with_reducible exact marginaliaref03_Lex.mono _ _)
   | (with_reducible exact marginaliaref03_Same.mono _ _ _)
   | (with_reducible exact relex_Common.mono _ _ _)
   | (with_reducible exact relex_Line.mono _ _ _)
   | (with_reducible exact relex_Relex.mono _ _ _)
   | (with_reducible exact LeO.refl _)
   | (with_reducible exact LeO.none _)
   | (with_reducible refine LeO.ite ?_ ?_)
   | (with_reducible refine LeO.bind ?_ (fun _ => ?_))
   | exact marginalialaw04_sample.mono _
   | exact marginaliaref03_Lex.mono _ _
   | exact marginaliaref03_Same.mono _ _ _
   | exact relex_Common.mono _ _ _
   | exact relex_Line.mono _ _ _
   | exact relex_Relex.mono _ _ _
   | exact LeO.none _
   | refine LeO.ite ?_ ?_
   | refine LeO.bind ?_ (fun _ => ?_)
set_option maxHeartbeats 8000000 in
set_option maxRecDepth 100000 in
theorem marginalialaw04_alive.calls (k : Nat)  (r : Bool) (w : World) (h : marginalialaw04_alive.f k  = some r) :
  Calls Try.prog 14 #[] w fun e w' => e = .returned (.bool r) ∧ Below w.heap.size w w' := by
 have hu39 := Try.underlying39; have HB := Aside0.mk (Below.refl w.heap.size w); have H : ((marginalialaw04_sample.f k).bind fun t309 => ((relex_Relex.f k t309 (([(⟨2, 3, (⟨#[120, 32, 121]⟩ : ByteArray)⟩ : S39)] : List (S39)))).bind fun bt315 => ((marginalialaw04_sample.f k).bind fun t321 => ((marginaliaref03_Lex.f k (⟨#[97, 32, 100, 32, 99]⟩ : ByteArray)).bind fun t324 => ((relex_Common.f k t321 t324).bind fun bt327 => ((marginalialaw04_sample.f k).bind fun t330 => ((relex_Line.f k t330 (([(⟨2, 3, (⟨#[120, 10, 121]⟩ : ByteArray)⟩ : S39)] : List (S39)))).bind fun bt336 => (if bt315.2.2.2 = 0 then ((marginaliaref03_Lex.f k (⟨#[97, 32, 120, 32, 121, 32, 99]⟩ : ByteArray)).bind fun t338 => ((marginaliaref03_Same.f k bt315.1 t338).bind fun t341 => (if t341 = true then (if bt315.2.1 ≤ 2 then (if bt315.2.2.1 ≤ 2 then (if bt327.2.2 = 0 then (if bt327.1 = 2 then (if bt327.2.1 = 2 then (if bt336.2 = 0 then (some (bt336.1 == 7)) else (some false)) else (some false)) else (some false)) else (some false)) else (some false)) else (some false)) else (some false)))) else (some false))))))))) = some r := h; clear h; replace H := zo H; obtain ⟨t309, A1, H⟩ := H
 obtain ⟨y312, hy312⟩ : ∃ y_ : List (S39), y_ = (([(⟨2, 3, (⟨#[120, 32, 121]⟩ : ByteArray)⟩ : S39)] : List (S39))) := ⟨_, rfl⟩
 replace H : ((relex_Relex.f k t309 y312).bind fun bt315 => ((marginalialaw04_sample.f k).bind fun t321 => ((marginaliaref03_Lex.f k (⟨#[97, 32, 100, 32, 99]⟩ : ByteArray)).bind fun t324 => ((relex_Common.f k t321 t324).bind fun bt327 => ((marginalialaw04_sample.f k).bind fun t330 => ((relex_Line.f k t330 (([(⟨2, 3, (⟨#[120, 10, 121]⟩ : ByteArray)⟩ : S39)] : List (S39)))).bind fun bt336 => (if bt315.2.2.2 = 0 then ((marginaliaref03_Lex.f k (⟨#[97, 32, 120, 32, 121, 32, 99]⟩ : ByteArray)).bind fun t338 => ((marginaliaref03_Same.f k bt315.1 t338).bind fun t341 => (if t341 = true then (if bt315.2.1 ≤ 2 then (if bt315.2.2.1 ≤ 2 then (if bt327.2.2 = 0 then (if bt327.1 = 2 then (if bt327.2.1 = 2 then (if bt336.2 = 0 then (some (bt336.1 == 7)) else (some false)) else (some false)) else (some false)) else (some false)) else (some false)) else (some false)) else (some false)))) else (some false)))))))) = some r := by first | (rw [hy312]; with_reducible exact H) | (have H2_ := (Option.bind_some _ _).symm.trans H; rw [hy312]; with_reducible exact H2_) | (have H2_ := (Option.bind_some _ _).symm.trans H; with_reducible exact H2_) | with_reducible exact H | (rw [hy312]; exact H) | exact H
 have Ny312 := Aside0.mk hy312; clear hy312; replace H := Option.bind_eq_some_iff.mp H; obtain ⟨⟨t315, t318, t319, t320⟩, A20, H⟩ := H; replace H : ((marginalialaw04_sample.f k).bind fun t321 => ((marginaliaref03_Lex.f k (⟨#[97, 32, 100, 32, 99]⟩ : ByteArray)).bind fun t324 => ((relex_Common.f k t321 t324).bind fun bt327 => ((marginalialaw04_sample.f k).bind fun t330 => ((relex_Line.f k t330 (([(⟨2, 3, (⟨#[120, 10, 121]⟩ : ByteArray)⟩ : S39)] : List (S39)))).bind fun bt336 => (if t320 = 0 then ((marginaliaref03_Lex.f k (⟨#[97, 32, 120, 32, 121, 32, 99]⟩ : ByteArray)).bind fun t338 => ((marginaliaref03_Same.f k t315 t338).bind fun t341 => (if t341 = true then (if t318 ≤ 2 then (if t319 ≤ 2 then (if bt327.2.2 = 0 then (if bt327.1 = 2 then (if bt327.2.1 = 2 then (if bt336.2 = 0 then (some (bt336.1 == 7)) else (some false)) else (some false)) else (some false)) else (some false)) else (some false)) else (some false)) else (some false)))) else (some false))))))) = some r := H; have A2 := Aside0.mk A20; clear A20; replace H := zo H; obtain ⟨t321, A3, H⟩ := H; replace H := zo H; obtain ⟨t324, A4, H⟩ := H; replace H := Option.bind_eq_some_iff.mp H; obtain ⟨⟨t327, t328, t329⟩, A50, H⟩ := H; replace H : ((marginalialaw04_sample.f k).bind fun t330 => ((relex_Line.f k t330 (([(⟨2, 3, (⟨#[120, 10, 121]⟩ : ByteArray)⟩ : S39)] : List (S39)))).bind fun bt336 => (if t320 = 0 then ((marginaliaref03_Lex.f k (⟨#[97, 32, 120, 32, 121, 32, 99]⟩ : ByteArray)).bind fun t338 => ((marginaliaref03_Same.f k t315 t338).bind fun t341 => (if t341 = true then (if t318 ≤ 2 then (if t319 ≤ 2 then (if t329 = 0 then (if t327 = 2 then (if t328 = 2 then (if bt336.2 = 0 then (some (bt336.1 == 7)) else (some false)) else (some false)) else (some false)) else (some false)) else (some false)) else (some false)) else (some false)))) else (some false)))) = some r := H; have A5 := Aside0.mk A50; clear A50; replace H := zo H; obtain ⟨t330, A6, H⟩ := H
 obtain ⟨y333, hy333⟩ : ∃ y_ : List (S39), y_ = (([(⟨2, 3, (⟨#[120, 10, 121]⟩ : ByteArray)⟩ : S39)] : List (S39))) := ⟨_, rfl⟩
 replace H : ((relex_Line.f k t330 y333).bind fun bt336 => (if t320 = 0 then ((marginaliaref03_Lex.f k (⟨#[97, 32, 120, 32, 121, 32, 99]⟩ : ByteArray)).bind fun t338 => ((marginaliaref03_Same.f k t315 t338).bind fun t341 => (if t341 = true then (if t318 ≤ 2 then (if t319 ≤ 2 then (if t329 = 0 then (if t327 = 2 then (if t328 = 2 then (if bt336.2 = 0 then (some (bt336.1 == 7)) else (some false)) else (some false)) else (some false)) else (some false)) else (some false)) else (some false)) else (some false)))) else (some false))) = some r := by first | (rw [hy333]; with_reducible exact H) | (have H2_ := (Option.bind_some _ _).symm.trans H; rw [hy333]; with_reducible exact H2_) | (have H2_ := (Option.bind_some _ _).symm.trans H; with_reducible exact H2_) | with_reducible exact H | (rw [hy333]; exact H) | exact H
 have Ny333 := Aside0.mk hy333; clear hy333; replace H := Option.bind_eq_some_iff.mp H; obtain ⟨⟨t336, t337⟩, A70, H⟩ := H; replace H : (if t320 = 0 then ((marginaliaref03_Lex.f k (⟨#[97, 32, 120, 32, 121, 32, 99]⟩ : ByteArray)).bind fun t338 => ((marginaliaref03_Same.f k t315 t338).bind fun t341 => (if t341 = true then (if t318 ≤ 2 then (if t319 ≤ 2 then (if t329 = 0 then (if t327 = 2 then (if t328 = 2 then (if t337 = 0 then (some (t336 == 7)) else (some false)) else (some false)) else (some false)) else (some false)) else (some false)) else (some false)) else (some false)))) else (some false)) = some r := H; have A7 := Aside0.mk A70; clear A70; by_cases c8 : t320 = 0
 ·rw [if_pos c8] at H; have c8b0 : (t320 == 0) = true := beq_iff_eq.mpr c8; have c8b1 : (t320 != 0) = false := bne_eq_false_iff_eq.mpr c8; clear c8; replace H := zo H; obtain ⟨t338, A9, H⟩ := H; replace H := zo H; obtain ⟨t341, A10, H⟩ := H; by_cases c11 : t341 = true
  ·subst c11; rw [if_pos rfl] at H; by_cases c12 : t318 ≤ 2
   ·rw [if_pos c12] at H; have c12b0 := decide_eq_true c12; clear c12; by_cases c13 : t319 ≤ 2
    ·rw [if_pos c13] at H; have c13b0 := decide_eq_true c13; clear c13; by_cases c14 : t329 = 0
     ·rw [if_pos c14] at H; have c14b0 : (t329 == 0) = true := beq_iff_eq.mpr c14; have c14b1 : (t329 != 0) = false := bne_eq_false_iff_eq.mpr c14; clear c14; by_cases c15 : t327 = 2
      ·rw [if_pos c15] at H; have c15b0 : (t327 == 2) = true := beq_iff_eq.mpr c15; have c15b1 : (t327 != 2) = false := bne_eq_false_iff_eq.mpr c15; clear c15; by_cases c16 : t328 = 2
       ·rw [if_pos c16] at H; have c16b0 : (t328 == 2) = true := beq_iff_eq.mpr c16; have c16b1 : (t328 != 2) = false := bne_eq_false_iff_eq.mpr c16; clear c16; by_cases c17 : t337 = 0
        ·rw [if_pos c17] at H; have c17b0 : (t337 == 0) = true := beq_iff_eq.mpr c17; have c17b1 : (t337 != 0) = false := bne_eq_false_iff_eq.mpr c17; clear c17; obtain rfl := Option.some.inj H; go_enter Try.func14, Try.ntmps14
         go_wp2_with (first | ((with_reducible refine zG 39 rfl ?_); refine zg 11 Try.func39 ((marginalialaw04_sample.calls k  t309 _ A1.out).mono ?_); rintro e w18 ⟨v310, rfl, ho0, hb⟩; refine ⟨_, rfl, ?_⟩; have HO311 := Aside0.mk (Kd.R_lower ho0 (below_size zb)); replace HB := (zB hb); (try clear hb); (try clear hb2); (try clear hk); (try clear hi); (try clear ho0)) | ((with_reducible refine zD 13 rfl ?_); refine Kd.R_lit k39 _ 39 ?hg (N := 13) ?hd (xs := ([(⟨2, 3, (⟨#[120, 32, 121]⟩ : ByteArray)⟩ : S39)] : List (S39))) (inner := [.int .i64 2, .int .i64 3, .string (⟨#[120, 32, 121]⟩ : ByteArray)]) (ok := fun _ => True) (okp := fun _ => True) ?hr ?hp (fun _ hk => hk) trivial (Below.refl _ _) (Nat.le_refl _) (by simp) ?_; (case hd => rfl); (case hg => rfl); (case hr => first | (go_simp; done) | (go_simp; rfl)); (case hp => exact (Reps.c3 (show Kd.M k39 _ _ _ (⟨2, 3, (⟨#[120, 32, 121]⟩ : ByteArray)⟩ : S39) [.int .i64 2, .int .i64 3, .string (⟨#[120, 32, 121]⟩ : ByteArray)] from (k39_mkM _ _ _ (⟨2, 3, (⟨#[120, 32, 121]⟩ : ByteArray)⟩ : S39) )) (Reps.none _ _))); intro v313 w19 ho20 hb hg_ hnew_; clear hg_ hnew_; (first | rw [← Ny312.out] at ho20 | (simp only [Int.reduceToNat] at ho20; rw [← Ny312.out] at ho20)); replace HO311 := (zRb HO311 hb); have HO314 := Aside0.mk (Kd.R_lower ho20 (below_size zb)); replace HB := (zB hb); clear hb ho20; obtain ⟨Ao21, co21, eo21⟩ := Kd.R_slice HO311.out; subst eo21; obtain ⟨Ao22, co22, eo22⟩ := Kd.R_slice HO314.out; subst eo22) | ((with_reducible refine zG 12 rfl ?_); refine zg 14 Try.func12 ((relex_Relex.calls k (fun k_ => some k_ = (.slice Ao21 t309.length co21 : Value).ownBlock) _ _ t309 _ _ y312 t315 t318 t319 t320 _ ?side1 ?side2 ?side3 A2.out).mono ?_); (case side1 => exact Kd.R_V (Kd.R_tight rfl (Kd.R_apart' (HO311.out) (Kd.R_typed HO314.out) (by decide)))); (case side2 => exact zE' (Kd.R_reads' HO314.out).2.2); (case side3 => exact (Kd.R_reads' HO314.out).2.1); rintro e w23 ⟨v316, rfl, ho0, hb⟩; refine ⟨_, rfl, ?_⟩; replace HO314 := (zRb HO314 hb); have HO317 := Aside0.mk (Kd.R_lower (Kd.R_new' (Kd.R_mono (ok' := fun k_ => True) ho0 (fun _ hk_ => trivial)) (Kd.R_lt (zR HO311))) (below_size zb)); replace HO311 := Aside0.mk (Kd.R_elder' (zR HO311) (Kd.R_base ho0) hb); replace HB := (zB hb); (try clear hb); (try clear hb2); (try clear hk); (try clear hi); (try clear ho0)) | ((with_reducible refine zG 39 rfl ?_); refine zg 20 Try.func39 ((marginalialaw04_sample.calls k  t321 _ A3.out).mono ?_); rintro e w24 ⟨v322, rfl, ho0, hb⟩; refine ⟨_, rfl, ?_⟩; replace HO314 := (zRb HO314 hb); have HO323 := Aside0.mk (Kd.R_lower (Kd.R_new' (Kd.R_new' ho0 (Kd.R_lt (zR HO311))) (Kd.R_lt (zR HO317))) (below_size zb)); replace HO311 := Aside0.mk (Kd.R_elder' (zR HO311) (Kd.R_base ho0) hb); replace HO317 := Aside0.mk (Kd.R_elder' (zR HO317) (Kd.R_base ho0) hb); replace HB := (zB hb); (try clear hb); (try clear hb2); (try clear hk); (try clear hi); (try clear ho0)) | ((with_reducible refine zG 15 rfl ?_); refine zg 21 Try.func15 ((marginaliaref03_Lex.calls k (⟨#[97, 32, 100, 32, 99]⟩ : ByteArray) t324 _ A4.out).mono ?_); rintro e w25 ⟨v325, rfl, ho0, hb⟩; refine ⟨_, rfl, ?_⟩; replace HO314 := (zRb HO314 hb); have HO326 := Aside0.mk (Kd.R_lower (Kd.R_new' (Kd.R_new' (Kd.R_new' ho0 (Kd.R_lt (zR HO311))) (Kd.R_lt (zR HO317))) (Kd.R_lt (zR HO323))) (below_size zb)); replace HO311 := Aside0.mk (Kd.R_elder' (zR HO311) (Kd.R_base ho0) hb); replace HO317 := Aside0.mk (Kd.R_elder' (zR HO317) (Kd.R_base ho0) hb); replace HO323 := Aside0.mk (Kd.R_elder' (zR HO323) (Kd.R_base ho0) hb); replace HB := (zB hb); (try clear hb); (try clear hb2); (try clear hk); (try clear hi); (try clear ho0); obtain ⟨Ao26, co26, eo26⟩ := Kd.R_slice HO323.out; subst eo26; obtain ⟨Ao27, co27, eo27⟩ := Kd.R_slice HO326.out; subst eo27) | ((with_reducible refine zG 21 rfl ?_); refine zg 22 Try.func21 ((relex_Common.calls k _ _ t321 _ _ t324 t327 t328 t329 _ ?side1 ?side2 ?side3 ?side4 A5.out).mono ?_); (case side1 => exact zE' (Kd.R_reads' HO323.out).2.2); (case side2 => exact (Kd.R_reads' HO323.out).2.1); (case side3 => exact zE' (Kd.R_reads' HO326.out).2.2); (case side4 => exact (Kd.R_reads' HO326.out).2.1); rintro e w28 ⟨rfl, hb⟩; refine ⟨_, rfl, ?_⟩; replace HO311 := (zRb HO311 hb); replace HO314 := (zRb HO314 hb); replace HO317 := (zRb HO317 hb); replace HO323 := (zRb HO323 hb); replace HO326 := (zRb HO326 hb); replace HB := (zB hb); (try clear hb); (try clear hb2); (try clear hk); (try clear hi)) | ((with_reducible refine zG 39 rfl ?_); refine zg 27 Try.func39 ((marginalialaw04_sample.calls k  t330 _ A6.out).mono ?_); rintro e w29 ⟨v331, rfl, ho0, hb⟩; refine ⟨_, rfl, ?_⟩; replace HO314 := (zRb HO314 hb); have HO332 := Aside0.mk (Kd.R_lower (Kd.R_new' (Kd.R_new' (Kd.R_new' (Kd.R_new' ho0 (Kd.R_lt (zR HO311))) (Kd.R_lt (zR HO317))) (Kd.R_lt (zR HO323))) (Kd.R_lt (zR HO326))) (below_size zb)); replace HO311 := Aside0.mk (Kd.R_elder' (zR HO311) (Kd.R_base ho0) hb); replace HO317 := Aside0.mk (Kd.R_elder' (zR HO317) (Kd.R_base ho0) hb); replace HO323 := Aside0.mk (Kd.R_elder' (zR HO323) (Kd.R_base ho0) hb); replace HO326 := Aside0.mk (Kd.R_elder' (zR HO326) (Kd.R_base ho0) hb); replace HB := (zB hb); (try clear hb); (try clear hb2); (try clear hk); (try clear hi); (try clear ho0)) | ((with_reducible refine zD 29 rfl ?_); refine Kd.R_lit k39 _ 39 ?hg (N := 29) ?hd (xs := ([(⟨2, 3, (⟨#[120, 10, 121]⟩ : ByteArray)⟩ : S39)] : List (S39))) (inner := [.int .i64 2, .int .i64 3, .string (⟨#[120, 10, 121]⟩ : ByteArray)]) (ok := fun _ => True) (okp := fun _ => True) ?hr ?hp (fun _ hk => hk) trivial (Below.refl _ _) (Nat.le_refl _) (by simp) ?_; (case hd => rfl); (case hg => rfl); (case hr => first | (go_simp; done) | (go_simp; rfl)); (case hp => exact (Reps.c3 (show Kd.M k39 _ _ _ (⟨2, 3, (⟨#[120, 10, 121]⟩ : ByteArray)⟩ : S39) [.int .i64 2, .int .i64 3, .string (⟨#[120, 10, 121]⟩ : ByteArray)] from (k39_mkM _ _ _ (⟨2, 3, (⟨#[120, 10, 121]⟩ : ByteArray)⟩ : S39) )) (Reps.none _ _))); intro v334 w30 ho31 hb hg_ hnew_; clear hg_ hnew_; (first | rw [← Ny333.out] at ho31 | (simp only [Int.reduceToNat] at ho31; rw [← Ny333.out] at ho31)); replace HO311 := (zRb HO311 hb); replace HO317 := (zRb HO317 hb); replace HO323 := (zRb HO323 hb); replace HO326 := (zRb HO326 hb); replace HO332 := (zRb HO332 hb); have HO335 := Aside0.mk (Kd.R_lower (Kd.R_new' ho31 (Kd.R_lt (zR HO314))) (below_size zb)); replace HO314 := Aside0.mk (Kd.R_elder' (zR HO314) (Kd.R_base ho31) hb); replace HB := (zB hb); clear hb ho31; obtain ⟨Ao32, co32, eo32⟩ := Kd.R_slice HO332.out; subst eo32; obtain ⟨Ao33, co33, eo33⟩ := Kd.R_slice HO335.out; subst eo33) | ((with_reducible refine zG 23 rfl ?_); refine zg 30 Try.func23 ((relex_Line.calls k _ _ t330 _ _ y333 t336 t337 _ ?side1 ?side2 ?side3 ?side4 A7.out).mono ?_); (case side1 => exact zE' (Kd.R_reads' HO332.out).2.2); (case side2 => exact (Kd.R_reads' HO332.out).2.1); (case side3 => exact zE' (Kd.R_reads' HO335.out).2.2); (case side4 => exact (Kd.R_reads' HO335.out).2.1); rintro e w34 ⟨rfl, hb⟩; refine ⟨_, rfl, ?_⟩; replace HO311 := (zRb HO311 hb); replace HO314 := (zRb HO314 hb); replace HO317 := (zRb HO317 hb); replace HO323 := (zRb HO323 hb); replace HO326 := (zRb HO326 hb); replace HO332 := (zRb HO332 hb); replace HO335 := (zRb HO335 hb); replace HB := (zB hb); (try clear hb); (try clear hb2); (try clear hk); (try clear hi)) | (go_at_call 15; (with_reducible refine (marginaliaref03_Lex.calls k (⟨#[97, 32, 120, 32, 121, 32, 99]⟩ : ByteArray) t338 _ A9.out).mono ?_); rintro e w35 ⟨v339, rfl, ho0, hb⟩; replace HO314 := (zRb HO314 hb); replace HO335 := (zRb HO335 hb); have HO340 := Aside0.mk (Kd.R_lower (Kd.R_new' (Kd.R_new' (Kd.R_new' (Kd.R_new' (Kd.R_new' ho0 (Kd.R_lt (zR HO311))) (Kd.R_lt (zR HO317))) (Kd.R_lt (zR HO323))) (Kd.R_lt (zR HO326))) (Kd.R_lt (zR HO332))) (below_size zb)); replace HO311 := Aside0.mk (Kd.R_elder' (zR HO311) (Kd.R_base ho0) hb); replace HO317 := Aside0.mk (Kd.R_elder' (zR HO317) (Kd.R_base ho0) hb); replace HO323 := Aside0.mk (Kd.R_elder' (zR HO323) (Kd.R_base ho0) hb); replace HO326 := Aside0.mk (Kd.R_elder' (zR HO326) (Kd.R_base ho0) hb); replace HO332 := Aside0.mk (Kd.R_elder' (zR HO332) (Kd.R_base ho0) hb); replace HB := (zB hb); (try clear hb); (try clear hb2); (try clear hk); (try clear hi); (try clear ho0); obtain ⟨Ao36, co36, eo36⟩ := Kd.R_slice HO317.out; subst eo36; obtain ⟨Ao37, co37, eo37⟩ := Kd.R_slice HO340.out; subst eo37) | (go_at_call 18; (with_reducible refine (marginaliaref03_Same.calls k _ _ t315 _ _ t338 true _ ?side1 ?side2 ?side3 ?side4 A10.out).mono ?_); (case side1 => exact zE' (Kd.R_reads' HO317.out).2.2); (case side2 => exact (Kd.R_reads' HO317.out).2.1); (case side3 => exact zE' (Kd.R_reads' HO340.out).2.2); (case side4 => exact (Kd.R_reads' HO340.out).2.1); rintro e w' ⟨rfl, ⟨nd, rfl⟩⟩))
         go_ret; exact ⟨zr, zb⟩
        ·rw [if_neg c17] at H; have c17b0 : (t337 == 0) = false := beq_eq_false_iff_ne.mpr c17; have c17b1 : (t337 != 0) = true := bne_iff_ne.mpr c17; obtain rfl := Option.some.inj H; go_enter Try.func14, Try.ntmps14
         go_wp2_with (first | ((with_reducible refine zG 39 rfl ?_); refine zg 11 Try.func39 ((marginalialaw04_sample.calls k  t309 _ A1.out).mono ?_); rintro e w38 ⟨v310, rfl, ho0, hb⟩; refine ⟨_, rfl, ?_⟩; have HO311 := Aside0.mk (Kd.R_lower ho0 (below_size zb)); replace HB := (zB hb); (try clear hb); (try clear hb2); (try clear hk); (try clear hi); (try clear ho0)) | ((with_reducible refine zD 13 rfl ?_); refine Kd.R_lit k39 _ 39 ?hg (N := 13) ?hd (xs := ([(⟨2, 3, (⟨#[120, 32, 121]⟩ : ByteArray)⟩ : S39)] : List (S39))) (inner := [.int .i64 2, .int .i64 3, .string (⟨#[120, 32, 121]⟩ : ByteArray)]) (ok := fun _ => True) (okp := fun _ => True) ?hr ?hp (fun _ hk => hk) trivial (Below.refl _ _) (Nat.le_refl _) (by simp) ?_; (case hd => rfl); (case hg => rfl); (case hr => first | (go_simp; done) | (go_simp; rfl)); (case hp => exact (Reps.c3 (show Kd.M k39 _ _ _ (⟨2, 3, (⟨#[120, 32, 121]⟩ : ByteArray)⟩ : S39) [.int .i64 2, .int .i64 3, .string (⟨#[120, 32, 121]⟩ : ByteArray)] from (k39_mkM _ _ _ (⟨2, 3, (⟨#[120, 32, 121]⟩ : ByteArray)⟩ : S39) )) (Reps.none _ _))); intro v313 w39 ho40 hb hg_ hnew_; clear hg_ hnew_; (first | rw [← Ny312.out] at ho40 | (simp only [Int.reduceToNat] at ho40; rw [← Ny312.out] at ho40)); replace HO311 := (zRb HO311 hb); have HO314 := Aside0.mk (Kd.R_lower ho40 (below_size zb)); replace HB := (zB hb); clear hb ho40; obtain ⟨Ao41, co41, eo41⟩ := Kd.R_slice HO311.out; subst eo41; obtain ⟨Ao42, co42, eo42⟩ := Kd.R_slice HO314.out; subst eo42) | ((with_reducible refine zG 12 rfl ?_); refine zg 14 Try.func12 ((relex_Relex.calls k (fun k_ => some k_ = (.slice Ao41 t309.length co41 : Value).ownBlock) _ _ t309 _ _ y312 t315 t318 t319 t320 _ ?side1 ?side2 ?side3 A2.out).mono ?_); (case side1 => exact Kd.R_V (Kd.R_tight rfl (Kd.R_apart' (HO311.out) (Kd.R_typed HO314.out) (by decide)))); (case side2 => exact zE' (Kd.R_reads' HO314.out).2.2); (case side3 => exact (Kd.R_reads' HO314.out).2.1); rintro e w43 ⟨v316, rfl, ho0, hb⟩; refine ⟨_, rfl, ?_⟩; replace HO314 := (zRb HO314 hb); have HO317 := Aside0.mk (Kd.R_lower (Kd.R_new' (Kd.R_mono (ok' := fun k_ => True) ho0 (fun _ hk_ => trivial)) (Kd.R_lt (zR HO311))) (below_size zb)); replace HO311 := Aside0.mk (Kd.R_elder' (zR HO311) (Kd.R_base ho0) hb); replace HB := (zB hb); (try clear hb); (try clear hb2); (try clear hk); (try clear hi); (try clear ho0)) | ((with_reducible refine zG 39 rfl ?_); refine zg 20 Try.func39 ((marginalialaw04_sample.calls k  t321 _ A3.out).mono ?_); rintro e w44 ⟨v322, rfl, ho0, hb⟩; refine ⟨_, rfl, ?_⟩; replace HO314 := (zRb HO314 hb); have HO323 := Aside0.mk (Kd.R_lower (Kd.R_new' (Kd.R_new' ho0 (Kd.R_lt (zR HO311))) (Kd.R_lt (zR HO317))) (below_size zb)); replace HO311 := Aside0.mk (Kd.R_elder' (zR HO311) (Kd.R_base ho0) hb); replace HO317 := Aside0.mk (Kd.R_elder' (zR HO317) (Kd.R_base ho0) hb); replace HB := (zB hb); (try clear hb); (try clear hb2); (try clear hk); (try clear hi); (try clear ho0)) | ((with_reducible refine zG 15 rfl ?_); refine zg 21 Try.func15 ((marginaliaref03_Lex.calls k (⟨#[97, 32, 100, 32, 99]⟩ : ByteArray) t324 _ A4.out).mono ?_); rintro e w45 ⟨v325, rfl, ho0, hb⟩; refine ⟨_, rfl, ?_⟩; replace HO314 := (zRb HO314 hb); have HO326 := Aside0.mk (Kd.R_lower (Kd.R_new' (Kd.R_new' (Kd.R_new' ho0 (Kd.R_lt (zR HO311))) (Kd.R_lt (zR HO317))) (Kd.R_lt (zR HO323))) (below_size zb)); replace HO311 := Aside0.mk (Kd.R_elder' (zR HO311) (Kd.R_base ho0) hb); replace HO317 := Aside0.mk (Kd.R_elder' (zR HO317) (Kd.R_base ho0) hb); replace HO323 := Aside0.mk (Kd.R_elder' (zR HO323) (Kd.R_base ho0) hb); replace HB := (zB hb); (try clear hb); (try clear hb2); (try clear hk); (try clear hi); (try clear ho0); obtain ⟨Ao46, co46, eo46⟩ := Kd.R_slice HO323.out; subst eo46; obtain ⟨Ao47, co47, eo47⟩ := Kd.R_slice HO326.out; subst eo47) | ((with_reducible refine zG 21 rfl ?_); refine zg 22 Try.func21 ((relex_Common.calls k _ _ t321 _ _ t324 t327 t328 t329 _ ?side1 ?side2 ?side3 ?side4 A5.out).mono ?_); (case side1 => exact zE' (Kd.R_reads' HO323.out).2.2); (case side2 => exact (Kd.R_reads' HO323.out).2.1); (case side3 => exact zE' (Kd.R_reads' HO326.out).2.2); (case side4 => exact (Kd.R_reads' HO326.out).2.1); rintro e w48 ⟨rfl, hb⟩; refine ⟨_, rfl, ?_⟩; replace HO311 := (zRb HO311 hb); replace HO314 := (zRb HO314 hb); replace HO317 := (zRb HO317 hb); replace HO323 := (zRb HO323 hb); replace HO326 := (zRb HO326 hb); replace HB := (zB hb); (try clear hb); (try clear hb2); (try clear hk); (try clear hi)) | ((with_reducible refine zG 39 rfl ?_); refine zg 27 Try.func39 ((marginalialaw04_sample.calls k  t330 _ A6.out).mono ?_); rintro e w49 ⟨v331, rfl, ho0, hb⟩; refine ⟨_, rfl, ?_⟩; replace HO314 := (zRb HO314 hb); have HO332 := Aside0.mk (Kd.R_lower (Kd.R_new' (Kd.R_new' (Kd.R_new' (Kd.R_new' ho0 (Kd.R_lt (zR HO311))) (Kd.R_lt (zR HO317))) (Kd.R_lt (zR HO323))) (Kd.R_lt (zR HO326))) (below_size zb)); replace HO311 := Aside0.mk (Kd.R_elder' (zR HO311) (Kd.R_base ho0) hb); replace HO317 := Aside0.mk (Kd.R_elder' (zR HO317) (Kd.R_base ho0) hb); replace HO323 := Aside0.mk (Kd.R_elder' (zR HO323) (Kd.R_base ho0) hb); replace HO326 := Aside0.mk (Kd.R_elder' (zR HO326) (Kd.R_base ho0) hb); replace HB := (zB hb); (try clear hb); (try clear hb2); (try clear hk); (try clear hi); (try clear ho0)) | ((with_reducible refine zD 29 rfl ?_); refine Kd.R_lit k39 _ 39 ?hg (N := 29) ?hd (xs := ([(⟨2, 3, (⟨#[120, 10, 121]⟩ : ByteArray)⟩ : S39)] : List (S39))) (inner := [.int .i64 2, .int .i64 3, .string (⟨#[120, 10, 121]⟩ : ByteArray)]) (ok := fun _ => True) (okp := fun _ => True) ?hr ?hp (fun _ hk => hk) trivial (Below.refl _ _) (Nat.le_refl _) (by simp) ?_; (case hd => rfl); (case hg => rfl); (case hr => first | (go_simp; done) | (go_simp; rfl)); (case hp => exact (Reps.c3 (show Kd.M k39 _ _ _ (⟨2, 3, (⟨#[120, 10, 121]⟩ : ByteArray)⟩ : S39) [.int .i64 2, .int .i64 3, .string (⟨#[120, 10, 121]⟩ : ByteArray)] from (k39_mkM _ _ _ (⟨2, 3, (⟨#[120, 10, 121]⟩ : ByteArray)⟩ : S39) )) (Reps.none _ _))); intro v334 w50 ho51 hb hg_ hnew_; clear hg_ hnew_; (first | rw [← Ny333.out] at ho51 | (simp only [Int.reduceToNat] at ho51; rw [← Ny333.out] at ho51)); replace HO311 := (zRb HO311 hb); replace HO317 := (zRb HO317 hb); replace HO323 := (zRb HO323 hb); replace HO326 := (zRb HO326 hb); replace HO332 := (zRb HO332 hb); have HO335 := Aside0.mk (Kd.R_lower (Kd.R_new' ho51 (Kd.R_lt (zR HO314))) (below_size zb)); replace HO314 := Aside0.mk (Kd.R_elder' (zR HO314) (Kd.R_base ho51) hb); replace HB := (zB hb); clear hb ho51; obtain ⟨Ao52, co52, eo52⟩ := Kd.R_slice HO332.out; subst eo52; obtain ⟨Ao53, co53, eo53⟩ := Kd.R_slice HO335.out; subst eo53) | ((with_reducible refine zG 23 rfl ?_); refine zg 30 Try.func23 ((relex_Line.calls k _ _ t330 _ _ y333 t336 t337 _ ?side1 ?side2 ?side3 ?side4 A7.out).mono ?_); (case side1 => exact zE' (Kd.R_reads' HO332.out).2.2); (case side2 => exact (Kd.R_reads' HO332.out).2.1); (case side3 => exact zE' (Kd.R_reads' HO335.out).2.2); (case side4 => exact (Kd.R_reads' HO335.out).2.1); rintro e w54 ⟨rfl, hb⟩; refine ⟨_, rfl, ?_⟩; replace HO311 := (zRb HO311 hb); replace HO314 := (zRb HO314 hb); replace HO317 := (zRb HO317 hb); replace HO323 := (zRb HO323 hb); replace HO326 := (zRb HO326 hb); replace HO332 := (zRb HO332 hb); replace HO335 := (zRb HO335 hb); replace HB := (zB hb); (try clear hb); (try clear hb2); (try clear hk); (try clear hi)) | (go_at_call 15; (with_reducible refine (marginaliaref03_Lex.calls k (⟨#[97, 32, 120, 32, 121, 32, 99]⟩ : ByteArray) t338 _ A9.out).mono ?_); rintro e w55 ⟨v339, rfl, ho0, hb⟩; replace HO314 := (zRb HO314 hb); replace HO335 := (zRb HO335 hb); have HO340 := Aside0.mk (Kd.R_lower (Kd.R_new' (Kd.R_new' (Kd.R_new' (Kd.R_new' (Kd.R_new' ho0 (Kd.R_lt (zR HO311))) (Kd.R_lt (zR HO317))) (Kd.R_lt (zR HO323))) (Kd.R_lt (zR HO326))) (Kd.R_lt (zR HO332))) (below_size zb)); replace HO311 := Aside0.mk (Kd.R_elder' (zR HO311) (Kd.R_base ho0) hb); replace HO317 := Aside0.mk (Kd.R_elder' (zR HO317) (Kd.R_base ho0) hb); replace HO323 := Aside0.mk (Kd.R_elder' (zR HO323) (Kd.R_base ho0) hb); replace HO326 := Aside0.mk (Kd.R_elder' (zR HO326) (Kd.R_base ho0) hb); replace HO332 := Aside0.mk (Kd.R_elder' (zR HO332) (Kd.R_base ho0) hb); replace HB := (zB hb); (try clear hb); (try clear hb2); (try clear hk); (try clear hi); (try clear ho0); obtain ⟨Ao56, co56, eo56⟩ := Kd.R_slice HO317.out; subst eo56; obtain ⟨Ao57, co57, eo57⟩ := Kd.R_slice HO340.out; subst eo57) | (go_at_call 18; (with_reducible refine (marginaliaref03_Same.calls k _ _ t315 _ _ t338 true _ ?side1 ?side2 ?side3 ?side4 A10.out).mono ?_); (case side1 => exact zE' (Kd.R_reads' HO317.out).2.2); (case side2 => exact (Kd.R_reads' HO317.out).2.1); (case side3 => exact zE' (Kd.R_reads' HO340.out).2.2); (case side4 => exact (Kd.R_reads' HO340.out).2.1); rintro e w' ⟨rfl, ⟨nd, rfl⟩⟩))
         go_ret; exact ⟨zr, zb⟩
       ·rw [if_neg c16] at H; have c16b0 : (t328 == 2) = false := beq_eq_false_iff_ne.mpr c16; have c16b1 : (t328 != 2) = true := bne_iff_ne.mpr c16; obtain rfl := Option.some.inj H; go_enter Try.func14, Try.ntmps14
        go_wp2_with (first | ((with_reducible refine zG 39 rfl ?_); refine zg 11 Try.func39 ((marginalialaw04_sample.calls k  t309 _ A1.out).mono ?_); rintro e w58 ⟨v310, rfl, ho0, hb⟩; refine ⟨_, rfl, ?_⟩; have HO311 := Aside0.mk (Kd.R_lower ho0 (below_size zb)); replace HB := (zB hb); (try clear hb); (try clear hb2); (try clear hk); (try clear hi); (try clear ho0)) | ((with_reducible refine zD 13 rfl ?_); refine Kd.R_lit k39 _ 39 ?hg (N := 13) ?hd (xs := ([(⟨2, 3, (⟨#[120, 32, 121]⟩ : ByteArray)⟩ : S39)] : List (S39))) (inner := [.int .i64 2, .int .i64 3, .string (⟨#[120, 32, 121]⟩ : ByteArray)]) (ok := fun _ => True) (okp := fun _ => True) ?hr ?hp (fun _ hk => hk) trivial (Below.refl _ _) (Nat.le_refl _) (by simp) ?_; (case hd => rfl); (case hg => rfl); (case hr => first | (go_simp; done) | (go_simp; rfl)); (case hp => exact (Reps.c3 (show Kd.M k39 _ _ _ (⟨2, 3, (⟨#[120, 32, 121]⟩ : ByteArray)⟩ : S39) [.int .i64 2, .int .i64 3, .string (⟨#[120, 32, 121]⟩ : ByteArray)] from (k39_mkM _ _ _ (⟨2, 3, (⟨#[120, 32, 121]⟩ : ByteArray)⟩ : S39) )) (Reps.none _ _))); intro v313 w59 ho60 hb hg_ hnew_; clear hg_ hnew_; (first | rw [← Ny312.out] at ho60 | (simp only [Int.reduceToNat] at ho60; rw [← Ny312.out] at ho60)); replace HO311 := (zRb HO311 hb); have HO314 := Aside0.mk (Kd.R_lower ho60 (below_size zb)); replace HB := (zB hb); clear hb ho60; obtain ⟨Ao61, co61, eo61⟩ := Kd.R_slice HO311.out; subst eo61; obtain ⟨Ao62, co62, eo62⟩ := Kd.R_slice HO314.out; subst eo62) | ((with_reducible refine zG 12 rfl ?_); refine zg 14 Try.func12 ((relex_Relex.calls k (fun k_ => some k_ = (.slice Ao61 t309.length co61 : Value).ownBlock) _ _ t309 _ _ y312 t315 t318 t319 t320 _ ?side1 ?side2 ?side3 A2.out).mono ?_); (case side1 => exact Kd.R_V (Kd.R_tight rfl (Kd.R_apart' (HO311.out) (Kd.R_typed HO314.out) (by decide)))); (case side2 => exact zE' (Kd.R_reads' HO314.out).2.2); (case side3 => exact (Kd.R_reads' HO314.out).2.1); rintro e w63 ⟨v316, rfl, ho0, hb⟩; refine ⟨_, rfl, ?_⟩; replace HO314 := (zRb HO314 hb); have HO317 := Aside0.mk (Kd.R_lower (Kd.R_new' (Kd.R_mono (ok' := fun k_ => True) ho0 (fun _ hk_ => trivial)) (Kd.R_lt (zR HO311))) (below_size zb)); replace HO311 := Aside0.mk (Kd.R_elder' (zR HO311) (Kd.R_base ho0) hb); replace HB := (zB hb); (try clear hb); (try clear hb2); (try clear hk); (try clear hi); (try clear ho0)) | ((with_reducible refine zG 39 rfl ?_); refine zg 20 Try.func39 ((marginalialaw04_sample.calls k  t321 _ A3.out).mono ?_); rintro e w64 ⟨v322, rfl, ho0, hb⟩; refine ⟨_, rfl, ?_⟩; replace HO314 := (zRb HO314 hb); have HO323 := Aside0.mk (Kd.R_lower (Kd.R_new' (Kd.R_new' ho0 (Kd.R_lt (zR HO311))) (Kd.R_lt (zR HO317))) (below_size zb)); replace HO311 := Aside0.mk (Kd.R_elder' (zR HO311) (Kd.R_base ho0) hb); replace HO317 := Aside0.mk (Kd.R_elder' (zR HO317) (Kd.R_base ho0) hb); replace HB := (zB hb); (try clear hb); (try clear hb2); (try clear hk); (try clear hi); (try clear ho0)) | ((with_reducible refine zG 15 rfl ?_); refine zg 21 Try.func15 ((marginaliaref03_Lex.calls k (⟨#[97, 32, 100, 32, 99]⟩ : ByteArray) t324 _ A4.out).mono ?_); rintro e w65 ⟨v325, rfl, ho0, hb⟩; refine ⟨_, rfl, ?_⟩; replace HO314 := (zRb HO314 hb); have HO326 := Aside0.mk (Kd.R_lower (Kd.R_new' (Kd.R_new' (Kd.R_new' ho0 (Kd.R_lt (zR HO311))) (Kd.R_lt (zR HO317))) (Kd.R_lt (zR HO323))) (below_size zb)); replace HO311 := Aside0.mk (Kd.R_elder' (zR HO311) (Kd.R_base ho0) hb); replace HO317 := Aside0.mk (Kd.R_elder' (zR HO317) (Kd.R_base ho0) hb); replace HO323 := Aside0.mk (Kd.R_elder' (zR HO323) (Kd.R_base ho0) hb); replace HB := (zB hb); (try clear hb); (try clear hb2); (try clear hk); (try clear hi); (try clear ho0); obtain ⟨Ao66, co66, eo66⟩ := Kd.R_slice HO323.out; subst eo66; obtain ⟨Ao67, co67, eo67⟩ := Kd.R_slice HO326.out; subst eo67) | ((with_reducible refine zG 21 rfl ?_); refine zg 22 Try.func21 ((relex_Common.calls k _ _ t321 _ _ t324 t327 t328 t329 _ ?side1 ?side2 ?side3 ?side4 A5.out).mono ?_); (case side1 => exact zE' (Kd.R_reads' HO323.out).2.2); (case side2 => exact (Kd.R_reads' HO323.out).2.1); (case side3 => exact zE' (Kd.R_reads' HO326.out).2.2); (case side4 => exact (Kd.R_reads' HO326.out).2.1); rintro e w68 ⟨rfl, hb⟩; refine ⟨_, rfl, ?_⟩; replace HO311 := (zRb HO311 hb); replace HO314 := (zRb HO314 hb); replace HO317 := (zRb HO317 hb); replace HO323 := (zRb HO323 hb); replace HO326 := (zRb HO326 hb); replace HB := (zB hb); (try clear hb); (try clear hb2); (try clear hk); (try clear hi)) | ((with_reducible refine zG 39 rfl ?_); refine zg 27 Try.func39 ((marginalialaw04_sample.calls k  t330 _ A6.out).mono ?_); rintro e w69 ⟨v331, rfl, ho0, hb⟩; refine ⟨_, rfl, ?_⟩; replace HO314 := (zRb HO314 hb); have HO332 := Aside0.mk (Kd.R_lower (Kd.R_new' (Kd.R_new' (Kd.R_new' (Kd.R_new' ho0 (Kd.R_lt (zR HO311))) (Kd.R_lt (zR HO317))) (Kd.R_lt (zR HO323))) (Kd.R_lt (zR HO326))) (below_size zb)); replace HO311 := Aside0.mk (Kd.R_elder' (zR HO311) (Kd.R_base ho0) hb); replace HO317 := Aside0.mk (Kd.R_elder' (zR HO317) (Kd.R_base ho0) hb); replace HO323 := Aside0.mk (Kd.R_elder' (zR HO323) (Kd.R_base ho0) hb); replace HO326 := Aside0.mk (Kd.R_elder' (zR HO326) (Kd.R_base ho0) hb); replace HB := (zB hb); (try clear hb); (try clear hb2); (try clear hk); (try clear hi); (try clear ho0)) | ((with_reducible refine zD 29 rfl ?_); refine Kd.R_lit k39 _ 39 ?hg (N := 29) ?hd (xs := ([(⟨2, 3, (⟨#[120, 10, 121]⟩ : ByteArray)⟩ : S39)] : List (S39))) (inner := [.int .i64 2, .int .i64 3, .string (⟨#[120, 10, 121]⟩ : ByteArray)]) (ok := fun _ => True) (okp := fun _ => True) ?hr ?hp (fun _ hk => hk) trivial (Below.refl _ _) (Nat.le_refl _) (by simp) ?_; (case hd => rfl); (case hg => rfl); (case hr => first | (go_simp; done) | (go_simp; rfl)); (case hp => exact (Reps.c3 (show Kd.M k39 _ _ _ (⟨2, 3, (⟨#[120, 10, 121]⟩ : ByteArray)⟩ : S39) [.int .i64 2, .int .i64 3, .string (⟨#[120, 10, 121]⟩ : ByteArray)] from (k39_mkM _ _ _ (⟨2, 3, (⟨#[120, 10, 121]⟩ : ByteArray)⟩ : S39) )) (Reps.none _ _))); intro v334 w70 ho71 hb hg_ hnew_; clear hg_ hnew_; (first | rw [← Ny333.out] at ho71 | (simp only [Int.reduceToNat] at ho71; rw [← Ny333.out] at ho71)); replace HO311 := (zRb HO311 hb); replace HO317 := (zRb HO317 hb); replace HO323 := (zRb HO323 hb); replace HO326 := (zRb HO326 hb); replace HO332 := (zRb HO332 hb); have HO335 := Aside0.mk (Kd.R_lower (Kd.R_new' ho71 (Kd.R_lt (zR HO314))) (below_size zb)); replace HO314 := Aside0.mk (Kd.R_elder' (zR HO314) (Kd.R_base ho71) hb); replace HB := (zB hb); clear hb ho71; obtain ⟨Ao72, co72, eo72⟩ := Kd.R_slice HO332.out; subst eo72; obtain ⟨Ao73, co73, eo73⟩ := Kd.R_slice HO335.out; subst eo73) | ((with_reducible refine zG 23 rfl ?_); refine zg 30 Try.func23 ((relex_Line.calls k _ _ t330 _ _ y333 t336 t337 _ ?side1 ?side2 ?side3 ?side4 A7.out).mono ?_); (case side1 => exact zE' (Kd.R_reads' HO332.out).2.2); (case side2 => exact (Kd.R_reads' HO332.out).2.1); (case side3 => exact zE' (Kd.R_reads' HO335.out).2.2); (case side4 => exact (Kd.R_reads' HO335.out).2.1); rintro e w74 ⟨rfl, hb⟩; refine ⟨_, rfl, ?_⟩; replace HO311 := (zRb HO311 hb); replace HO314 := (zRb HO314 hb); replace HO317 := (zRb HO317 hb); replace HO323 := (zRb HO323 hb); replace HO326 := (zRb HO326 hb); replace HO332 := (zRb HO332 hb); replace HO335 := (zRb HO335 hb); replace HB := (zB hb); (try clear hb); (try clear hb2); (try clear hk); (try clear hi)) | (go_at_call 15; (with_reducible refine (marginaliaref03_Lex.calls k (⟨#[97, 32, 120, 32, 121, 32, 99]⟩ : ByteArray) t338 _ A9.out).mono ?_); rintro e w75 ⟨v339, rfl, ho0, hb⟩; replace HO314 := (zRb HO314 hb); replace HO335 := (zRb HO335 hb); have HO340 := Aside0.mk (Kd.R_lower (Kd.R_new' (Kd.R_new' (Kd.R_new' (Kd.R_new' (Kd.R_new' ho0 (Kd.R_lt (zR HO311))) (Kd.R_lt (zR HO317))) (Kd.R_lt (zR HO323))) (Kd.R_lt (zR HO326))) (Kd.R_lt (zR HO332))) (below_size zb)); replace HO311 := Aside0.mk (Kd.R_elder' (zR HO311) (Kd.R_base ho0) hb); replace HO317 := Aside0.mk (Kd.R_elder' (zR HO317) (Kd.R_base ho0) hb); replace HO323 := Aside0.mk (Kd.R_elder' (zR HO323) (Kd.R_base ho0) hb); replace HO326 := Aside0.mk (Kd.R_elder' (zR HO326) (Kd.R_base ho0) hb); replace HO332 := Aside0.mk (Kd.R_elder' (zR HO332) (Kd.R_base ho0) hb); replace HB := (zB hb); (try clear hb); (try clear hb2); (try clear hk); (try clear hi); (try clear ho0); obtain ⟨Ao76, co76, eo76⟩ := Kd.R_slice HO317.out; subst eo76; obtain ⟨Ao77, co77, eo77⟩ := Kd.R_slice HO340.out; subst eo77) | (go_at_call 18; (with_reducible refine (marginaliaref03_Same.calls k _ _ t315 _ _ t338 true _ ?side1 ?side2 ?side3 ?side4 A10.out).mono ?_); (case side1 => exact zE' (Kd.R_reads' HO317.out).2.2); (case side2 => exact (Kd.R_reads' HO317.out).2.1); (case side3 => exact zE' (Kd.R_reads' HO340.out).2.2); (case side4 => exact (Kd.R_reads' HO340.out).2.1); rintro e w' ⟨rfl, ⟨nd, rfl⟩⟩))
        go_ret; exact ⟨zr, zb⟩
      ·rw [if_neg c15] at H; have c15b0 : (t327 == 2) = false := beq_eq_false_iff_ne.mpr c15; have c15b1 : (t327 != 2) = true := bne_iff_ne.mpr c15; obtain rfl := Option.some.inj H; go_enter Try.func14, Try.ntmps14
       go_wp2_with (first | ((with_reducible refine zG 39 rfl ?_); refine zg 11 Try.func39 ((marginalialaw04_sample.calls k  t309 _ A1.out).mono ?_); rintro e w78 ⟨v310, rfl, ho0, hb⟩; refine ⟨_, rfl, ?_⟩; have HO311 := Aside0.mk (Kd.R_lower ho0 (below_size zb)); replace HB := (zB hb); (try clear hb); (try clear hb2); (try clear hk); (try clear hi); (try clear ho0)) | ((with_reducible refine zD 13 rfl ?_); refine Kd.R_lit k39 _ 39 ?hg (N := 13) ?hd (xs := ([(⟨2, 3, (⟨#[120, 32, 121]⟩ : ByteArray)⟩ : S39)] : List (S39))) (inner := [.int .i64 2, .int .i64 3, .string (⟨#[120, 32, 121]⟩ : ByteArray)]) (ok := fun _ => True) (okp := fun _ => True) ?hr ?hp (fun _ hk => hk) trivial (Below.refl _ _) (Nat.le_refl _) (by simp) ?_; (case hd => rfl); (case hg => rfl); (case hr => first | (go_simp; done) | (go_simp; rfl)); (case hp => exact (Reps.c3 (show Kd.M k39 _ _ _ (⟨2, 3, (⟨#[120, 32, 121]⟩ : ByteArray)⟩ : S39) [.int .i64 2, .int .i64 3, .string (⟨#[120, 32, 121]⟩ : ByteArray)] from (k39_mkM _ _ _ (⟨2, 3, (⟨#[120, 32, 121]⟩ : ByteArray)⟩ : S39) )) (Reps.none _ _))); intro v313 w79 ho80 hb hg_ hnew_; clear hg_ hnew_; (first | rw [← Ny312.out] at ho80 | (simp only [Int.reduceToNat] at ho80; rw [← Ny312.out] at ho80)); replace HO311 := (zRb HO311 hb); have HO314 := Aside0.mk (Kd.R_lower ho80 (below_size zb)); replace HB := (zB hb); clear hb ho80; obtain ⟨Ao81, co81, eo81⟩ := Kd.R_slice HO311.out; subst eo81; obtain ⟨Ao82, co82, eo82⟩ := Kd.R_slice HO314.out; subst eo82) | ((with_reducible refine zG 12 rfl ?_); refine zg 14 Try.func12 ((relex_Relex.calls k (fun k_ => some k_ = (.slice Ao81 t309.length co81 : Value).ownBlock) _ _ t309 _ _ y312 t315 t318 t319 t320 _ ?side1 ?side2 ?side3 A2.out).mono ?_); (case side1 => exact Kd.R_V (Kd.R_tight rfl (Kd.R_apart' (HO311.out) (Kd.R_typed HO314.out) (by decide)))); (case side2 => exact zE' (Kd.R_reads' HO314.out).2.2); (case side3 => exact (Kd.R_reads' HO314.out).2.1); rintro e w83 ⟨v316, rfl, ho0, hb⟩; refine ⟨_, rfl, ?_⟩; replace HO314 := (zRb HO314 hb); have HO317 := Aside0.mk (Kd.R_lower (Kd.R_new' (Kd.R_mono (ok' := fun k_ => True) ho0 (fun _ hk_ => trivial)) (Kd.R_lt (zR HO311))) (below_size zb)); replace HO311 := Aside0.mk (Kd.R_elder' (zR HO311) (Kd.R_base ho0) hb); replace HB := (zB hb); (try clear hb); (try clear hb2); (try clear hk); (try clear hi); (try clear ho0)) | ((with_reducible refine zG 39 rfl ?_); refine zg 20 Try.func39 ((marginalialaw04_sample.calls k  t321 _ A3.out).mono ?_); rintro e w84 ⟨v322, rfl, ho0, hb⟩; refine ⟨_, rfl, ?_⟩; replace HO314 := (zRb HO314 hb); have HO323 := Aside0.mk (Kd.R_lower (Kd.R_new' (Kd.R_new' ho0 (Kd.R_lt (zR HO311))) (Kd.R_lt (zR HO317))) (below_size zb)); replace HO311 := Aside0.mk (Kd.R_elder' (zR HO311) (Kd.R_base ho0) hb); replace HO317 := Aside0.mk (Kd.R_elder' (zR HO317) (Kd.R_base ho0) hb); replace HB := (zB hb); (try clear hb); (try clear hb2); (try clear hk); (try clear hi); (try clear ho0)) | ((with_reducible refine zG 15 rfl ?_); refine zg 21 Try.func15 ((marginaliaref03_Lex.calls k (⟨#[97, 32, 100, 32, 99]⟩ : ByteArray) t324 _ A4.out).mono ?_); rintro e w85 ⟨v325, rfl, ho0, hb⟩; refine ⟨_, rfl, ?_⟩; replace HO314 := (zRb HO314 hb); have HO326 := Aside0.mk (Kd.R_lower (Kd.R_new' (Kd.R_new' (Kd.R_new' ho0 (Kd.R_lt (zR HO311))) (Kd.R_lt (zR HO317))) (Kd.R_lt (zR HO323))) (below_size zb)); replace HO311 := Aside0.mk (Kd.R_elder' (zR HO311) (Kd.R_base ho0) hb); replace HO317 := Aside0.mk (Kd.R_elder' (zR HO317) (Kd.R_base ho0) hb); replace HO323 := Aside0.mk (Kd.R_elder' (zR HO323) (Kd.R_base ho0) hb); replace HB := (zB hb); (try clear hb); (try clear hb2); (try clear hk); (try clear hi); (try clear ho0); obtain ⟨Ao86, co86, eo86⟩ := Kd.R_slice HO323.out; subst eo86; obtain ⟨Ao87, co87, eo87⟩ := Kd.R_slice HO326.out; subst eo87) | ((with_reducible refine zG 21 rfl ?_); refine zg 22 Try.func21 ((relex_Common.calls k _ _ t321 _ _ t324 t327 t328 t329 _ ?side1 ?side2 ?side3 ?side4 A5.out).mono ?_); (case side1 => exact zE' (Kd.R_reads' HO323.out).2.2); (case side2 => exact (Kd.R_reads' HO323.out).2.1); (case side3 => exact zE' (Kd.R_reads' HO326.out).2.2); (case side4 => exact (Kd.R_reads' HO326.out).2.1); rintro e w88 ⟨rfl, hb⟩; refine ⟨_, rfl, ?_⟩; replace HO311 := (zRb HO311 hb); replace HO314 := (zRb HO314 hb); replace HO317 := (zRb HO317 hb); replace HO323 := (zRb HO323 hb); replace HO326 := (zRb HO326 hb); replace HB := (zB hb); (try clear hb); (try clear hb2); (try clear hk); (try clear hi)) | ((with_reducible refine zG 39 rfl ?_); refine zg 27 Try.func39 ((marginalialaw04_sample.calls k  t330 _ A6.out).mono ?_); rintro e w89 ⟨v331, rfl, ho0, hb⟩; refine ⟨_, rfl, ?_⟩; replace HO314 := (zRb HO314 hb); have HO332 := Aside0.mk (Kd.R_lower (Kd.R_new' (Kd.R_new' (Kd.R_new' (Kd.R_new' ho0 (Kd.R_lt (zR HO311))) (Kd.R_lt (zR HO317))) (Kd.R_lt (zR HO323))) (Kd.R_lt (zR HO326))) (below_size zb)); replace HO311 := Aside0.mk (Kd.R_elder' (zR HO311) (Kd.R_base ho0) hb); replace HO317 := Aside0.mk (Kd.R_elder' (zR HO317) (Kd.R_base ho0) hb); replace HO323 := Aside0.mk (Kd.R_elder' (zR HO323) (Kd.R_base ho0) hb); replace HO326 := Aside0.mk (Kd.R_elder' (zR HO326) (Kd.R_base ho0) hb); replace HB := (zB hb); (try clear hb); (try clear hb2); (try clear hk); (try clear hi); (try clear ho0)) | ((with_reducible refine zD 29 rfl ?_); refine Kd.R_lit k39 _ 39 ?hg (N := 29) ?hd (xs := ([(⟨2, 3, (⟨#[120, 10, 121]⟩ : ByteArray)⟩ : S39)] : List (S39))) (inner := [.int .i64 2, .int .i64 3, .string (⟨#[120, 10, 121]⟩ : ByteArray)]) (ok := fun _ => True) (okp := fun _ => True) ?hr ?hp (fun _ hk => hk) trivial (Below.refl _ _) (Nat.le_refl _) (by simp) ?_; (case hd => rfl); (case hg => rfl); (case hr => first | (go_simp; done) | (go_simp; rfl)); (case hp => exact (Reps.c3 (show Kd.M k39 _ _ _ (⟨2, 3, (⟨#[120, 10, 121]⟩ : ByteArray)⟩ : S39) [.int .i64 2, .int .i64 3, .string (⟨#[120, 10, 121]⟩ : ByteArray)] from (k39_mkM _ _ _ (⟨2, 3, (⟨#[120, 10, 121]⟩ : ByteArray)⟩ : S39) )) (Reps.none _ _))); intro v334 w90 ho91 hb hg_ hnew_; clear hg_ hnew_; (first | rw [← Ny333.out] at ho91 | (simp only [Int.reduceToNat] at ho91; rw [← Ny333.out] at ho91)); replace HO311 := (zRb HO311 hb); replace HO317 := (zRb HO317 hb); replace HO323 := (zRb HO323 hb); replace HO326 := (zRb HO326 hb); replace HO332 := (zRb HO332 hb); have HO335 := Aside0.mk (Kd.R_lower (Kd.R_new' ho91 (Kd.R_lt (zR HO314))) (below_size zb)); replace HO314 := Aside0.mk (Kd.R_elder' (zR HO314) (Kd.R_base ho91) hb); replace HB := (zB hb); clear hb ho91; obtain ⟨Ao92, co92, eo92⟩ := Kd.R_slice HO332.out; subst eo92; obtain ⟨Ao93, co93, eo93⟩ := Kd.R_slice HO335.out; subst eo93) | ((with_reducible refine zG 23 rfl ?_); refine zg 30 Try.func23 ((relex_Line.calls k _ _ t330 _ _ y333 t336 t337 _ ?side1 ?side2 ?side3 ?side4 A7.out).mono ?_); (case side1 => exact zE' (Kd.R_reads' HO332.out).2.2); (case side2 => exact (Kd.R_reads' HO332.out).2.1); (case side3 => exact zE' (Kd.R_reads' HO335.out).2.2); (case side4 => exact (Kd.R_reads' HO335.out).2.1); rintro e w94 ⟨rfl, hb⟩; refine ⟨_, rfl, ?_⟩; replace HO311 := (zRb HO311 hb); replace HO314 := (zRb HO314 hb); replace HO317 := (zRb HO317 hb); replace HO323 := (zRb HO323 hb); replace HO326 := (zRb HO326 hb); replace HO332 := (zRb HO332 hb); replace HO335 := (zRb HO335 hb); replace HB := (zB hb); (try clear hb); (try clear hb2); (try clear hk); (try clear hi)) | (go_at_call 15; (with_reducible refine (marginaliaref03_Lex.calls k (⟨#[97, 32, 120, 32, 121, 32, 99]⟩ : ByteArray) t338 _ A9.out).mono ?_); rintro e w95 ⟨v339, rfl, ho0, hb⟩; replace HO314 := (zRb HO314 hb); replace HO335 := (zRb HO335 hb); have HO340 := Aside0.mk (Kd.R_lower (Kd.R_new' (Kd.R_new' (Kd.R_new' (Kd.R_new' (Kd.R_new' ho0 (Kd.R_lt (zR HO311))) (Kd.R_lt (zR HO317))) (Kd.R_lt (zR HO323))) (Kd.R_lt (zR HO326))) (Kd.R_lt (zR HO332))) (below_size zb)); replace HO311 := Aside0.mk (Kd.R_elder' (zR HO311) (Kd.R_base ho0) hb); replace HO317 := Aside0.mk (Kd.R_elder' (zR HO317) (Kd.R_base ho0) hb); replace HO323 := Aside0.mk (Kd.R_elder' (zR HO323) (Kd.R_base ho0) hb); replace HO326 := Aside0.mk (Kd.R_elder' (zR HO326) (Kd.R_base ho0) hb); replace HO332 := Aside0.mk (Kd.R_elder' (zR HO332) (Kd.R_base ho0) hb); replace HB := (zB hb); (try clear hb); (try clear hb2); (try clear hk); (try clear hi); (try clear ho0); obtain ⟨Ao96, co96, eo96⟩ := Kd.R_slice HO317.out; subst eo96; obtain ⟨Ao97, co97, eo97⟩ := Kd.R_slice HO340.out; subst eo97) | (go_at_call 18; (with_reducible refine (marginaliaref03_Same.calls k _ _ t315 _ _ t338 true _ ?side1 ?side2 ?side3 ?side4 A10.out).mono ?_); (case side1 => exact zE' (Kd.R_reads' HO317.out).2.2); (case side2 => exact (Kd.R_reads' HO317.out).2.1); (case side3 => exact zE' (Kd.R_reads' HO340.out).2.2); (case side4 => exact (Kd.R_reads' HO340.out).2.1); rintro e w' ⟨rfl, ⟨nd, rfl⟩⟩))
       go_ret; exact ⟨zr, zb⟩
     ·rw [if_neg c14] at H; have c14b0 : (t329 == 0) = false := beq_eq_false_iff_ne.mpr c14; have c14b1 : (t329 != 0) = true := bne_iff_ne.mpr c14; obtain rfl := Option.some.inj H; go_enter Try.func14, Try.ntmps14
      go_wp2_with (first | ((with_reducible refine zG 39 rfl ?_); refine zg 11 Try.func39 ((marginalialaw04_sample.calls k  t309 _ A1.out).mono ?_); rintro e w98 ⟨v310, rfl, ho0, hb⟩; refine ⟨_, rfl, ?_⟩; have HO311 := Aside0.mk (Kd.R_lower ho0 (below_size zb)); replace HB := (zB hb); (try clear hb); (try clear hb2); (try clear hk); (try clear hi); (try clear ho0)) | ((with_reducible refine zD 13 rfl ?_); refine Kd.R_lit k39 _ 39 ?hg (N := 13) ?hd (xs := ([(⟨2, 3, (⟨#[120, 32, 121]⟩ : ByteArray)⟩ : S39)] : List (S39))) (inner := [.int .i64 2, .int .i64 3, .string (⟨#[120, 32, 121]⟩ : ByteArray)]) (ok := fun _ => True) (okp := fun _ => True) ?hr ?hp (fun _ hk => hk) trivial (Below.refl _ _) (Nat.le_refl _) (by simp) ?_; (case hd => rfl); (case hg => rfl); (case hr => first | (go_simp; done) | (go_simp; rfl)); (case hp => exact (Reps.c3 (show Kd.M k39 _ _ _ (⟨2, 3, (⟨#[120, 32, 121]⟩ : ByteArray)⟩ : S39) [.int .i64 2, .int .i64 3, .string (⟨#[120, 32, 121]⟩ : ByteArray)] from (k39_mkM _ _ _ (⟨2, 3, (⟨#[120, 32, 121]⟩ : ByteArray)⟩ : S39) )) (Reps.none _ _))); intro v313 w99 ho100 hb hg_ hnew_; clear hg_ hnew_; (first | rw [← Ny312.out] at ho100 | (simp only [Int.reduceToNat] at ho100; rw [← Ny312.out] at ho100)); replace HO311 := (zRb HO311 hb); have HO314 := Aside0.mk (Kd.R_lower ho100 (below_size zb)); replace HB := (zB hb); clear hb ho100; obtain ⟨Ao101, co101, eo101⟩ := Kd.R_slice HO311.out; subst eo101; obtain ⟨Ao102, co102, eo102⟩ := Kd.R_slice HO314.out; subst eo102) | ((with_reducible refine zG 12 rfl ?_); refine zg 14 Try.func12 ((relex_Relex.calls k (fun k_ => some k_ = (.slice Ao101 t309.length co101 : Value).ownBlock) _ _ t309 _ _ y312 t315 t318 t319 t320 _ ?side1 ?side2 ?side3 A2.out).mono ?_); (case side1 => exact Kd.R_V (Kd.R_tight rfl (Kd.R_apart' (HO311.out) (Kd.R_typed HO314.out) (by decide)))); (case side2 => exact zE' (Kd.R_reads' HO314.out).2.2); (case side3 => exact (Kd.R_reads' HO314.out).2.1); rintro e w103 ⟨v316, rfl, ho0, hb⟩; refine ⟨_, rfl, ?_⟩; replace HO314 := (zRb HO314 hb); have HO317 := Aside0.mk (Kd.R_lower (Kd.R_new' (Kd.R_mono (ok' := fun k_ => True) ho0 (fun _ hk_ => trivial)) (Kd.R_lt (zR HO311))) (below_size zb)); replace HO311 := Aside0.mk (Kd.R_elder' (zR HO311) (Kd.R_base ho0) hb); replace HB := (zB hb); (try clear hb); (try clear hb2); (try clear hk); (try clear hi); (try clear ho0)) | ((with_reducible refine zG 39 rfl ?_); refine zg 20 Try.func39 ((marginalialaw04_sample.calls k  t321 _ A3.out).mono ?_); rintro e w104 ⟨v322, rfl, ho0, hb⟩; refine ⟨_, rfl, ?_⟩; replace HO314 := (zRb HO314 hb); have HO323 := Aside0.mk (Kd.R_lower (Kd.R_new' (Kd.R_new' ho0 (Kd.R_lt (zR HO311))) (Kd.R_lt (zR HO317))) (below_size zb)); replace HO311 := Aside0.mk (Kd.R_elder' (zR HO311) (Kd.R_base ho0) hb); replace HO317 := Aside0.mk (Kd.R_elder' (zR HO317) (Kd.R_base ho0) hb); replace HB := (zB hb); (try clear hb); (try clear hb2); (try clear hk); (try clear hi); (try clear ho0)) | ((with_reducible refine zG 15 rfl ?_); refine zg 21 Try.func15 ((marginaliaref03_Lex.calls k (⟨#[97, 32, 100, 32, 99]⟩ : ByteArray) t324 _ A4.out).mono ?_); rintro e w105 ⟨v325, rfl, ho0, hb⟩; refine ⟨_, rfl, ?_⟩; replace HO314 := (zRb HO314 hb); have HO326 := Aside0.mk (Kd.R_lower (Kd.R_new' (Kd.R_new' (Kd.R_new' ho0 (Kd.R_lt (zR HO311))) (Kd.R_lt (zR HO317))) (Kd.R_lt (zR HO323))) (below_size zb)); replace HO311 := Aside0.mk (Kd.R_elder' (zR HO311) (Kd.R_base ho0) hb); replace HO317 := Aside0.mk (Kd.R_elder' (zR HO317) (Kd.R_base ho0) hb); replace HO323 := Aside0.mk (Kd.R_elder' (zR HO323) (Kd.R_base ho0) hb); replace HB := (zB hb); (try clear hb); (try clear hb2); (try clear hk); (try clear hi); (try clear ho0); obtain ⟨Ao106, co106, eo106⟩ := Kd.R_slice HO323.out; subst eo106; obtain ⟨Ao107, co107, eo107⟩ := Kd.R_slice HO326.out; subst eo107) | ((with_reducible refine zG 21 rfl ?_); refine zg 22 Try.func21 ((relex_Common.calls k _ _ t321 _ _ t324 t327 t328 t329 _ ?side1 ?side2 ?side3 ?side4 A5.out).mono ?_); (case side1 => exact zE' (Kd.R_reads' HO323.out).2.2); (case side2 => exact (Kd.R_reads' HO323.out).2.1); (case side3 => exact zE' (Kd.R_reads' HO326.out).2.2); (case side4 => exact (Kd.R_reads' HO326.out).2.1); rintro e w108 ⟨rfl, hb⟩; refine ⟨_, rfl, ?_⟩; replace HO311 := (zRb HO311 hb); replace HO314 := (zRb HO314 hb); replace HO317 := (zRb HO317 hb); replace HO323 := (zRb HO323 hb); replace HO326 := (zRb HO326 hb); replace HB := (zB hb); (try clear hb); (try clear hb2); (try clear hk); (try clear hi)) | ((with_reducible refine zG 39 rfl ?_); refine zg 27 Try.func39 ((marginalialaw04_sample.calls k  t330 _ A6.out).mono ?_); rintro e w109 ⟨v331, rfl, ho0, hb⟩; refine ⟨_, rfl, ?_⟩; replace HO314 := (zRb HO314 hb); have HO332 := Aside0.mk (Kd.R_lower (Kd.R_new' (Kd.R_new' (Kd.R_new' (Kd.R_new' ho0 (Kd.R_lt (zR HO311))) (Kd.R_lt (zR HO317))) (Kd.R_lt (zR HO323))) (Kd.R_lt (zR HO326))) (below_size zb)); replace HO311 := Aside0.mk (Kd.R_elder' (zR HO311) (Kd.R_base ho0) hb); replace HO317 := Aside0.mk (Kd.R_elder' (zR HO317) (Kd.R_base ho0) hb); replace HO323 := Aside0.mk (Kd.R_elder' (zR HO323) (Kd.R_base ho0) hb); replace HO326 := Aside0.mk (Kd.R_elder' (zR HO326) (Kd.R_base ho0) hb); replace HB := (zB hb); (try clear hb); (try clear hb2); (try clear hk); (try clear hi); (try clear ho0)) | ((with_reducible refine zD 29 rfl ?_); refine Kd.R_lit k39 _ 39 ?hg (N := 29) ?hd (xs := ([(⟨2, 3, (⟨#[120, 10, 121]⟩ : ByteArray)⟩ : S39)] : List (S39))) (inner := [.int .i64 2, .int .i64 3, .string (⟨#[120, 10, 121]⟩ : ByteArray)]) (ok := fun _ => True) (okp := fun _ => True) ?hr ?hp (fun _ hk => hk) trivial (Below.refl _ _) (Nat.le_refl _) (by simp) ?_; (case hd => rfl); (case hg => rfl); (case hr => first | (go_simp; done) | (go_simp; rfl)); (case hp => exact (Reps.c3 (show Kd.M k39 _ _ _ (⟨2, 3, (⟨#[120, 10, 121]⟩ : ByteArray)⟩ : S39) [.int .i64 2, .int .i64 3, .string (⟨#[120, 10, 121]⟩ : ByteArray)] from (k39_mkM _ _ _ (⟨2, 3, (⟨#[120, 10, 121]⟩ : ByteArray)⟩ : S39) )) (Reps.none _ _))); intro v334 w110 ho111 hb hg_ hnew_; clear hg_ hnew_; (first | rw [← Ny333.out] at ho111 | (simp only [Int.reduceToNat] at ho111; rw [← Ny333.out] at ho111)); replace HO311 := (zRb HO311 hb); replace HO317 := (zRb HO317 hb); replace HO323 := (zRb HO323 hb); replace HO326 := (zRb HO326 hb); replace HO332 := (zRb HO332 hb); have HO335 := Aside0.mk (Kd.R_lower (Kd.R_new' ho111 (Kd.R_lt (zR HO314))) (below_size zb)); replace HO314 := Aside0.mk (Kd.R_elder' (zR HO314) (Kd.R_base ho111) hb); replace HB := (zB hb); clear hb ho111; obtain ⟨Ao112, co112, eo112⟩ := Kd.R_slice HO332.out; subst eo112; obtain ⟨Ao113, co113, eo113⟩ := Kd.R_slice HO335.out; subst eo113) | ((with_reducible refine zG 23 rfl ?_); refine zg 30 Try.func23 ((relex_Line.calls k _ _ t330 _ _ y333 t336 t337 _ ?side1 ?side2 ?side3 ?side4 A7.out).mono ?_); (case side1 => exact zE' (Kd.R_reads' HO332.out).2.2); (case side2 => exact (Kd.R_reads' HO332.out).2.1); (case side3 => exact zE' (Kd.R_reads' HO335.out).2.2); (case side4 => exact (Kd.R_reads' HO335.out).2.1); rintro e w114 ⟨rfl, hb⟩; refine ⟨_, rfl, ?_⟩; replace HO311 := (zRb HO311 hb); replace HO314 := (zRb HO314 hb); replace HO317 := (zRb HO317 hb); replace HO323 := (zRb HO323 hb); replace HO326 := (zRb HO326 hb); replace HO332 := (zRb HO332 hb); replace HO335 := (zRb HO335 hb); replace HB := (zB hb); (try clear hb); (try clear hb2); (try clear hk); (try clear hi)) | (go_at_call 15; (with_reducible refine (marginaliaref03_Lex.calls k (⟨#[97, 32, 120, 32, 121, 32, 99]⟩ : ByteArray) t338 _ A9.out).mono ?_); rintro e w115 ⟨v339, rfl, ho0, hb⟩; replace HO314 := (zRb HO314 hb); replace HO335 := (zRb HO335 hb); have HO340 := Aside0.mk (Kd.R_lower (Kd.R_new' (Kd.R_new' (Kd.R_new' (Kd.R_new' (Kd.R_new' ho0 (Kd.R_lt (zR HO311))) (Kd.R_lt (zR HO317))) (Kd.R_lt (zR HO323))) (Kd.R_lt (zR HO326))) (Kd.R_lt (zR HO332))) (below_size zb)); replace HO311 := Aside0.mk (Kd.R_elder' (zR HO311) (Kd.R_base ho0) hb); replace HO317 := Aside0.mk (Kd.R_elder' (zR HO317) (Kd.R_base ho0) hb); replace HO323 := Aside0.mk (Kd.R_elder' (zR HO323) (Kd.R_base ho0) hb); replace HO326 := Aside0.mk (Kd.R_elder' (zR HO326) (Kd.R_base ho0) hb); replace HO332 := Aside0.mk (Kd.R_elder' (zR HO332) (Kd.R_base ho0) hb); replace HB := (zB hb); (try clear hb); (try clear hb2); (try clear hk); (try clear hi); (try clear ho0); obtain ⟨Ao116, co116, eo116⟩ := Kd.R_slice HO317.out; subst eo116; obtain ⟨Ao117, co117, eo117⟩ := Kd.R_slice HO340.out; subst eo117) | (go_at_call 18; (with_reducible refine (marginaliaref03_Same.calls k _ _ t315 _ _ t338 true _ ?side1 ?side2 ?side3 ?side4 A10.out).mono ?_); (case side1 => exact zE' (Kd.R_reads' HO317.out).2.2); (case side2 => exact (Kd.R_reads' HO317.out).2.1); (case side3 => exact zE' (Kd.R_reads' HO340.out).2.2); (case side4 => exact (Kd.R_reads' HO340.out).2.1); rintro e w' ⟨rfl, ⟨nd, rfl⟩⟩))
      go_ret; exact ⟨zr, zb⟩
    ·rw [if_neg c13] at H; have c13b0 := decide_eq_false c13; clear c13; obtain rfl := Option.some.inj H; go_enter Try.func14, Try.ntmps14
     go_wp2_with (first | ((with_reducible refine zG 39 rfl ?_); refine zg 11 Try.func39 ((marginalialaw04_sample.calls k  t309 _ A1.out).mono ?_); rintro e w118 ⟨v310, rfl, ho0, hb⟩; refine ⟨_, rfl, ?_⟩; have HO311 := Aside0.mk (Kd.R_lower ho0 (below_size zb)); replace HB := (zB hb); (try clear hb); (try clear hb2); (try clear hk); (try clear hi); (try clear ho0)) | ((with_reducible refine zD 13 rfl ?_); refine Kd.R_lit k39 _ 39 ?hg (N := 13) ?hd (xs := ([(⟨2, 3, (⟨#[120, 32, 121]⟩ : ByteArray)⟩ : S39)] : List (S39))) (inner := [.int .i64 2, .int .i64 3, .string (⟨#[120, 32, 121]⟩ : ByteArray)]) (ok := fun _ => True) (okp := fun _ => True) ?hr ?hp (fun _ hk => hk) trivial (Below.refl _ _) (Nat.le_refl _) (by simp) ?_; (case hd => rfl); (case hg => rfl); (case hr => first | (go_simp; done) | (go_simp; rfl)); (case hp => exact (Reps.c3 (show Kd.M k39 _ _ _ (⟨2, 3, (⟨#[120, 32, 121]⟩ : ByteArray)⟩ : S39) [.int .i64 2, .int .i64 3, .string (⟨#[120, 32, 121]⟩ : ByteArray)] from (k39_mkM _ _ _ (⟨2, 3, (⟨#[120, 32, 121]⟩ : ByteArray)⟩ : S39) )) (Reps.none _ _))); intro v313 w119 ho120 hb hg_ hnew_; clear hg_ hnew_; (first | rw [← Ny312.out] at ho120 | (simp only [Int.reduceToNat] at ho120; rw [← Ny312.out] at ho120)); replace HO311 := (zRb HO311 hb); have HO314 := Aside0.mk (Kd.R_lower ho120 (below_size zb)); replace HB := (zB hb); clear hb ho120; obtain ⟨Ao121, co121, eo121⟩ := Kd.R_slice HO311.out; subst eo121; obtain ⟨Ao122, co122, eo122⟩ := Kd.R_slice HO314.out; subst eo122) | ((with_reducible refine zG 12 rfl ?_); refine zg 14 Try.func12 ((relex_Relex.calls k (fun k_ => some k_ = (.slice Ao121 t309.length co121 : Value).ownBlock) _ _ t309 _ _ y312 t315 t318 t319 t320 _ ?side1 ?side2 ?side3 A2.out).mono ?_); (case side1 => exact Kd.R_V (Kd.R_tight rfl (Kd.R_apart' (HO311.out) (Kd.R_typed HO314.out) (by decide)))); (case side2 => exact zE' (Kd.R_reads' HO314.out).2.2); (case side3 => exact (Kd.R_reads' HO314.out).2.1); rintro e w123 ⟨v316, rfl, ho0, hb⟩; refine ⟨_, rfl, ?_⟩; replace HO314 := (zRb HO314 hb); have HO317 := Aside0.mk (Kd.R_lower (Kd.R_new' (Kd.R_mono (ok' := fun k_ => True) ho0 (fun _ hk_ => trivial)) (Kd.R_lt (zR HO311))) (below_size zb)); replace HO311 := Aside0.mk (Kd.R_elder' (zR HO311) (Kd.R_base ho0) hb); replace HB := (zB hb); (try clear hb); (try clear hb2); (try clear hk); (try clear hi); (try clear ho0)) | ((with_reducible refine zG 39 rfl ?_); refine zg 20 Try.func39 ((marginalialaw04_sample.calls k  t321 _ A3.out).mono ?_); rintro e w124 ⟨v322, rfl, ho0, hb⟩; refine ⟨_, rfl, ?_⟩; replace HO314 := (zRb HO314 hb); have HO323 := Aside0.mk (Kd.R_lower (Kd.R_new' (Kd.R_new' ho0 (Kd.R_lt (zR HO311))) (Kd.R_lt (zR HO317))) (below_size zb)); replace HO311 := Aside0.mk (Kd.R_elder' (zR HO311) (Kd.R_base ho0) hb); replace HO317 := Aside0.mk (Kd.R_elder' (zR HO317) (Kd.R_base ho0) hb); replace HB := (zB hb); (try clear hb); (try clear hb2); (try clear hk); (try clear hi); (try clear ho0)) | ((with_reducible refine zG 15 rfl ?_); refine zg 21 Try.func15 ((marginaliaref03_Lex.calls k (⟨#[97, 32, 100, 32, 99]⟩ : ByteArray) t324 _ A4.out).mono ?_); rintro e w125 ⟨v325, rfl, ho0, hb⟩; refine ⟨_, rfl, ?_⟩; replace HO314 := (zRb HO314 hb); have HO326 := Aside0.mk (Kd.R_lower (Kd.R_new' (Kd.R_new' (Kd.R_new' ho0 (Kd.R_lt (zR HO311))) (Kd.R_lt (zR HO317))) (Kd.R_lt (zR HO323))) (below_size zb)); replace HO311 := Aside0.mk (Kd.R_elder' (zR HO311) (Kd.R_base ho0) hb); replace HO317 := Aside0.mk (Kd.R_elder' (zR HO317) (Kd.R_base ho0) hb); replace HO323 := Aside0.mk (Kd.R_elder' (zR HO323) (Kd.R_base ho0) hb); replace HB := (zB hb); (try clear hb); (try clear hb2); (try clear hk); (try clear hi); (try clear ho0); obtain ⟨Ao126, co126, eo126⟩ := Kd.R_slice HO323.out; subst eo126; obtain ⟨Ao127, co127, eo127⟩ := Kd.R_slice HO326.out; subst eo127) | ((with_reducible refine zG 21 rfl ?_); refine zg 22 Try.func21 ((relex_Common.calls k _ _ t321 _ _ t324 t327 t328 t329 _ ?side1 ?side2 ?side3 ?side4 A5.out).mono ?_); (case side1 => exact zE' (Kd.R_reads' HO323.out).2.2); (case side2 => exact (Kd.R_reads' HO323.out).2.1); (case side3 => exact zE' (Kd.R_reads' HO326.out).2.2); (case side4 => exact (Kd.R_reads' HO326.out).2.1); rintro e w128 ⟨rfl, hb⟩; refine ⟨_, rfl, ?_⟩; replace HO311 := (zRb HO311 hb); replace HO314 := (zRb HO314 hb); replace HO317 := (zRb HO317 hb); replace HO323 := (zRb HO323 hb); replace HO326 := (zRb HO326 hb); replace HB := (zB hb); (try clear hb); (try clear hb2); (try clear hk); (try clear hi)) | ((with_reducible refine zG 39 rfl ?_); refine zg 27 Try.func39 ((marginalialaw04_sample.calls k  t330 _ A6.out).mono ?_); rintro e w129 ⟨v331, rfl, ho0, hb⟩; refine ⟨_, rfl, ?_⟩; replace HO314 := (zRb HO314 hb); have HO332 := Aside0.mk (Kd.R_lower (Kd.R_new' (Kd.R_new' (Kd.R_new' (Kd.R_new' ho0 (Kd.R_lt (zR HO311))) (Kd.R_lt (zR HO317))) (Kd.R_lt (zR HO323))) (Kd.R_lt (zR HO326))) (below_size zb)); replace HO311 := Aside0.mk (Kd.R_elder' (zR HO311) (Kd.R_base ho0) hb); replace HO317 := Aside0.mk (Kd.R_elder' (zR HO317) (Kd.R_base ho0) hb); replace HO323 := Aside0.mk (Kd.R_elder' (zR HO323) (Kd.R_base ho0) hb); replace HO326 := Aside0.mk (Kd.R_elder' (zR HO326) (Kd.R_base ho0) hb); replace HB := (zB hb); (try clear hb); (try clear hb2); (try clear hk); (try clear hi); (try clear ho0)) | ((with_reducible refine zD 29 rfl ?_); refine Kd.R_lit k39 _ 39 ?hg (N := 29) ?hd (xs := ([(⟨2, 3, (⟨#[120, 10, 121]⟩ : ByteArray)⟩ : S39)] : List (S39))) (inner := [.int .i64 2, .int .i64 3, .string (⟨#[120, 10, 121]⟩ : ByteArray)]) (ok := fun _ => True) (okp := fun _ => True) ?hr ?hp (fun _ hk => hk) trivial (Below.refl _ _) (Nat.le_refl _) (by simp) ?_; (case hd => rfl); (case hg => rfl); (case hr => first | (go_simp; done) | (go_simp; rfl)); (case hp => exact (Reps.c3 (show Kd.M k39 _ _ _ (⟨2, 3, (⟨#[120, 10, 121]⟩ : ByteArray)⟩ : S39) [.int .i64 2, .int .i64 3, .string (⟨#[120, 10, 121]⟩ : ByteArray)] from (k39_mkM _ _ _ (⟨2, 3, (⟨#[120, 10, 121]⟩ : ByteArray)⟩ : S39) )) (Reps.none _ _))); intro v334 w130 ho131 hb hg_ hnew_; clear hg_ hnew_; (first | rw [← Ny333.out] at ho131 | (simp only [Int.reduceToNat] at ho131; rw [← Ny333.out] at ho131)); replace HO311 := (zRb HO311 hb); replace HO317 := (zRb HO317 hb); replace HO323 := (zRb HO323 hb); replace HO326 := (zRb HO326 hb); replace HO332 := (zRb HO332 hb); have HO335 := Aside0.mk (Kd.R_lower (Kd.R_new' ho131 (Kd.R_lt (zR HO314))) (below_size zb)); replace HO314 := Aside0.mk (Kd.R_elder' (zR HO314) (Kd.R_base ho131) hb); replace HB := (zB hb); clear hb ho131; obtain ⟨Ao132, co132, eo132⟩ := Kd.R_slice HO332.out; subst eo132; obtain ⟨Ao133, co133, eo133⟩ := Kd.R_slice HO335.out; subst eo133) | ((with_reducible refine zG 23 rfl ?_); refine zg 30 Try.func23 ((relex_Line.calls k _ _ t330 _ _ y333 t336 t337 _ ?side1 ?side2 ?side3 ?side4 A7.out).mono ?_); (case side1 => exact zE' (Kd.R_reads' HO332.out).2.2); (case side2 => exact (Kd.R_reads' HO332.out).2.1); (case side3 => exact zE' (Kd.R_reads' HO335.out).2.2); (case side4 => exact (Kd.R_reads' HO335.out).2.1); rintro e w134 ⟨rfl, hb⟩; refine ⟨_, rfl, ?_⟩; replace HO311 := (zRb HO311 hb); replace HO314 := (zRb HO314 hb); replace HO317 := (zRb HO317 hb); replace HO323 := (zRb HO323 hb); replace HO326 := (zRb HO326 hb); replace HO332 := (zRb HO332 hb); replace HO335 := (zRb HO335 hb); replace HB := (zB hb); (try clear hb); (try clear hb2); (try clear hk); (try clear hi)) | (go_at_call 15; (with_reducible refine (marginaliaref03_Lex.calls k (⟨#[97, 32, 120, 32, 121, 32, 99]⟩ : ByteArray) t338 _ A9.out).mono ?_); rintro e w135 ⟨v339, rfl, ho0, hb⟩; replace HO314 := (zRb HO314 hb); replace HO335 := (zRb HO335 hb); have HO340 := Aside0.mk (Kd.R_lower (Kd.R_new' (Kd.R_new' (Kd.R_new' (Kd.R_new' (Kd.R_new' ho0 (Kd.R_lt (zR HO311))) (Kd.R_lt (zR HO317))) (Kd.R_lt (zR HO323))) (Kd.R_lt (zR HO326))) (Kd.R_lt (zR HO332))) (below_size zb)); replace HO311 := Aside0.mk (Kd.R_elder' (zR HO311) (Kd.R_base ho0) hb); replace HO317 := Aside0.mk (Kd.R_elder' (zR HO317) (Kd.R_base ho0) hb); replace HO323 := Aside0.mk (Kd.R_elder' (zR HO323) (Kd.R_base ho0) hb); replace HO326 := Aside0.mk (Kd.R_elder' (zR HO326) (Kd.R_base ho0) hb); replace HO332 := Aside0.mk (Kd.R_elder' (zR HO332) (Kd.R_base ho0) hb); replace HB := (zB hb); (try clear hb); (try clear hb2); (try clear hk); (try clear hi); (try clear ho0); obtain ⟨Ao136, co136, eo136⟩ := Kd.R_slice HO317.out; subst eo136; obtain ⟨Ao137, co137, eo137⟩ := Kd.R_slice HO340.out; subst eo137) | (go_at_call 18; (with_reducible refine (marginaliaref03_Same.calls k _ _ t315 _ _ t338 true _ ?side1 ?side2 ?side3 ?side4 A10.out).mono ?_); (case side1 => exact zE' (Kd.R_reads' HO317.out).2.2); (case side2 => exact (Kd.R_reads' HO317.out).2.1); (case side3 => exact zE' (Kd.R_reads' HO340.out).2.2); (case side4 => exact (Kd.R_reads' HO340.out).2.1); rintro e w' ⟨rfl, ⟨nd, rfl⟩⟩))
     go_ret; exact ⟨zr, zb⟩
   ·rw [if_neg c12] at H; have c12b0 := decide_eq_false c12; clear c12; obtain rfl := Option.some.inj H; go_enter Try.func14, Try.ntmps14
    go_wp2_with (first | ((with_reducible refine zG 39 rfl ?_); refine zg 11 Try.func39 ((marginalialaw04_sample.calls k  t309 _ A1.out).mono ?_); rintro e w138 ⟨v310, rfl, ho0, hb⟩; refine ⟨_, rfl, ?_⟩; have HO311 := Aside0.mk (Kd.R_lower ho0 (below_size zb)); replace HB := (zB hb); (try clear hb); (try clear hb2); (try clear hk); (try clear hi); (try clear ho0)) | ((with_reducible refine zD 13 rfl ?_); refine Kd.R_lit k39 _ 39 ?hg (N := 13) ?hd (xs := ([(⟨2, 3, (⟨#[120, 32, 121]⟩ : ByteArray)⟩ : S39)] : List (S39))) (inner := [.int .i64 2, .int .i64 3, .string (⟨#[120, 32, 121]⟩ : ByteArray)]) (ok := fun _ => True) (okp := fun _ => True) ?hr ?hp (fun _ hk => hk) trivial (Below.refl _ _) (Nat.le_refl _) (by simp) ?_; (case hd => rfl); (case hg => rfl); (case hr => first | (go_simp; done) | (go_simp; rfl)); (case hp => exact (Reps.c3 (show Kd.M k39 _ _ _ (⟨2, 3, (⟨#[120, 32, 121]⟩ : ByteArray)⟩ : S39) [.int .i64 2, .int .i64 3, .string (⟨#[120, 32, 121]⟩ : ByteArray)] from (k39_mkM _ _ _ (⟨2, 3, (⟨#[120, 32, 121]⟩ : ByteArray)⟩ : S39) )) (Reps.none _ _))); intro v313 w139 ho140 hb hg_ hnew_; clear hg_ hnew_; (first | rw [← Ny312.out] at ho140 | (simp only [Int.reduceToNat] at ho140; rw [← Ny312.out] at ho140)); replace HO311 := (zRb HO311 hb); have HO314 := Aside0.mk (Kd.R_lower ho140 (below_size zb)); replace HB := (zB hb); clear hb ho140; obtain ⟨Ao141, co141, eo141⟩ := Kd.R_slice HO311.out; subst eo141; obtain ⟨Ao142, co142, eo142⟩ := Kd.R_slice HO314.out; subst eo142) | ((with_reducible refine zG 12 rfl ?_); refine zg 14 Try.func12 ((relex_Relex.calls k (fun k_ => some k_ = (.slice Ao141 t309.length co141 : Value).ownBlock) _ _ t309 _ _ y312 t315 t318 t319 t320 _ ?side1 ?side2 ?side3 A2.out).mono ?_); (case side1 => exact Kd.R_V (Kd.R_tight rfl (Kd.R_apart' (HO311.out) (Kd.R_typed HO314.out) (by decide)))); (case side2 => exact zE' (Kd.R_reads' HO314.out).2.2); (case side3 => exact (Kd.R_reads' HO314.out).2.1); rintro e w143 ⟨v316, rfl, ho0, hb⟩; refine ⟨_, rfl, ?_⟩; replace HO314 := (zRb HO314 hb); have HO317 := Aside0.mk (Kd.R_lower (Kd.R_new' (Kd.R_mono (ok' := fun k_ => True) ho0 (fun _ hk_ => trivial)) (Kd.R_lt (zR HO311))) (below_size zb)); replace HO311 := Aside0.mk (Kd.R_elder' (zR HO311) (Kd.R_base ho0) hb); replace HB := (zB hb); (try clear hb); (try clear hb2); (try clear hk); (try clear hi); (try clear ho0)) | ((with_reducible refine zG 39 rfl ?_); refine zg 20 Try.func39 ((marginalialaw04_sample.calls k  t321 _ A3.out).mono ?_); rintro e w144 ⟨v322, rfl, ho0, hb⟩; refine ⟨_, rfl, ?_⟩; replace HO314 := (zRb HO314 hb); have HO323 := Aside0.mk (Kd.R_lower (Kd.R_new' (Kd.R_new' ho0 (Kd.R_lt (zR HO311))) (Kd.R_lt (zR HO317))) (below_size zb)); replace HO311 := Aside0.mk (Kd.R_elder' (zR HO311) (Kd.R_base ho0) hb); replace HO317 := Aside0.mk (Kd.R_elder' (zR HO317) (Kd.R_base ho0) hb); replace HB := (zB hb); (try clear hb); (try clear hb2); (try clear hk); (try clear hi); (try clear ho0)) | ((with_reducible refine zG 15 rfl ?_); refine zg 21 Try.func15 ((marginaliaref03_Lex.calls k (⟨#[97, 32, 100, 32, 99]⟩ : ByteArray) t324 _ A4.out).mono ?_); rintro e w145 ⟨v325, rfl, ho0, hb⟩; refine ⟨_, rfl, ?_⟩; replace HO314 := (zRb HO314 hb); have HO326 := Aside0.mk (Kd.R_lower (Kd.R_new' (Kd.R_new' (Kd.R_new' ho0 (Kd.R_lt (zR HO311))) (Kd.R_lt (zR HO317))) (Kd.R_lt (zR HO323))) (below_size zb)); replace HO311 := Aside0.mk (Kd.R_elder' (zR HO311) (Kd.R_base ho0) hb); replace HO317 := Aside0.mk (Kd.R_elder' (zR HO317) (Kd.R_base ho0) hb); replace HO323 := Aside0.mk (Kd.R_elder' (zR HO323) (Kd.R_base ho0) hb); replace HB := (zB hb); (try clear hb); (try clear hb2); (try clear hk); (try clear hi); (try clear ho0); obtain ⟨Ao146, co146, eo146⟩ := Kd.R_slice HO323.out; subst eo146; obtain ⟨Ao147, co147, eo147⟩ := Kd.R_slice HO326.out; subst eo147) | ((with_reducible refine zG 21 rfl ?_); refine zg 22 Try.func21 ((relex_Common.calls k _ _ t321 _ _ t324 t327 t328 t329 _ ?side1 ?side2 ?side3 ?side4 A5.out).mono ?_); (case side1 => exact zE' (Kd.R_reads' HO323.out).2.2); (case side2 => exact (Kd.R_reads' HO323.out).2.1); (case side3 => exact zE' (Kd.R_reads' HO326.out).2.2); (case side4 => exact (Kd.R_reads' HO326.out).2.1); rintro e w148 ⟨rfl, hb⟩; refine ⟨_, rfl, ?_⟩; replace HO311 := (zRb HO311 hb); replace HO314 := (zRb HO314 hb); replace HO317 := (zRb HO317 hb); replace HO323 := (zRb HO323 hb); replace HO326 := (zRb HO326 hb); replace HB := (zB hb); (try clear hb); (try clear hb2); (try clear hk); (try clear hi)) | ((with_reducible refine zG 39 rfl ?_); refine zg 27 Try.func39 ((marginalialaw04_sample.calls k  t330 _ A6.out).mono ?_); rintro e w149 ⟨v331, rfl, ho0, hb⟩; refine ⟨_, rfl, ?_⟩; replace HO314 := (zRb HO314 hb); have HO332 := Aside0.mk (Kd.R_lower (Kd.R_new' (Kd.R_new' (Kd.R_new' (Kd.R_new' ho0 (Kd.R_lt (zR HO311))) (Kd.R_lt (zR HO317))) (Kd.R_lt (zR HO323))) (Kd.R_lt (zR HO326))) (below_size zb)); replace HO311 := Aside0.mk (Kd.R_elder' (zR HO311) (Kd.R_base ho0) hb); replace HO317 := Aside0.mk (Kd.R_elder' (zR HO317) (Kd.R_base ho0) hb); replace HO323 := Aside0.mk (Kd.R_elder' (zR HO323) (Kd.R_base ho0) hb); replace HO326 := Aside0.mk (Kd.R_elder' (zR HO326) (Kd.R_base ho0) hb); replace HB := (zB hb); (try clear hb); (try clear hb2); (try clear hk); (try clear hi); (try clear ho0)) | ((with_reducible refine zD 29 rfl ?_); refine Kd.R_lit k39 _ 39 ?hg (N := 29) ?hd (xs := ([(⟨2, 3, (⟨#[120, 10, 121]⟩ : ByteArray)⟩ : S39)] : List (S39))) (inner := [.int .i64 2, .int .i64 3, .string (⟨#[120, 10, 121]⟩ : ByteArray)]) (ok := fun _ => True) (okp := fun _ => True) ?hr ?hp (fun _ hk => hk) trivial (Below.refl _ _) (Nat.le_refl _) (by simp) ?_; (case hd => rfl); (case hg => rfl); (case hr => first | (go_simp; done) | (go_simp; rfl)); (case hp => exact (Reps.c3 (show Kd.M k39 _ _ _ (⟨2, 3, (⟨#[120, 10, 121]⟩ : ByteArray)⟩ : S39) [.int .i64 2, .int .i64 3, .string (⟨#[120, 10, 121]⟩ : ByteArray)] from (k39_mkM _ _ _ (⟨2, 3, (⟨#[120, 10, 121]⟩ : ByteArray)⟩ : S39) )) (Reps.none _ _))); intro v334 w150 ho151 hb hg_ hnew_; clear hg_ hnew_; (first | rw [← Ny333.out] at ho151 | (simp only [Int.reduceToNat] at ho151; rw [← Ny333.out] at ho151)); replace HO311 := (zRb HO311 hb); replace HO317 := (zRb HO317 hb); replace HO323 := (zRb HO323 hb); replace HO326 := (zRb HO326 hb); replace HO332 := (zRb HO332 hb); have HO335 := Aside0.mk (Kd.R_lower (Kd.R_new' ho151 (Kd.R_lt (zR HO314))) (below_size zb)); replace HO314 := Aside0.mk (Kd.R_elder' (zR HO314) (Kd.R_base ho151) hb); replace HB := (zB hb); clear hb ho151; obtain ⟨Ao152, co152, eo152⟩ := Kd.R_slice HO332.out; subst eo152; obtain ⟨Ao153, co153, eo153⟩ := Kd.R_slice HO335.out; subst eo153) | ((with_reducible refine zG 23 rfl ?_); refine zg 30 Try.func23 ((relex_Line.calls k _ _ t330 _ _ y333 t336 t337 _ ?side1 ?side2 ?side3 ?side4 A7.out).mono ?_); (case side1 => exact zE' (Kd.R_reads' HO332.out).2.2); (case side2 => exact (Kd.R_reads' HO332.out).2.1); (case side3 => exact zE' (Kd.R_reads' HO335.out).2.2); (case side4 => exact (Kd.R_reads' HO335.out).2.1); rintro e w154 ⟨rfl, hb⟩; refine ⟨_, rfl, ?_⟩; replace HO311 := (zRb HO311 hb); replace HO314 := (zRb HO314 hb); replace HO317 := (zRb HO317 hb); replace HO323 := (zRb HO323 hb); replace HO326 := (zRb HO326 hb); replace HO332 := (zRb HO332 hb); replace HO335 := (zRb HO335 hb); replace HB := (zB hb); (try clear hb); (try clear hb2); (try clear hk); (try clear hi)) | (go_at_call 15; (with_reducible refine (marginaliaref03_Lex.calls k (⟨#[97, 32, 120, 32, 121, 32, 99]⟩ : ByteArray) t338 _ A9.out).mono ?_); rintro e w155 ⟨v339, rfl, ho0, hb⟩; replace HO314 := (zRb HO314 hb); replace HO335 := (zRb HO335 hb); have HO340 := Aside0.mk (Kd.R_lower (Kd.R_new' (Kd.R_new' (Kd.R_new' (Kd.R_new' (Kd.R_new' ho0 (Kd.R_lt (zR HO311))) (Kd.R_lt (zR HO317))) (Kd.R_lt (zR HO323))) (Kd.R_lt (zR HO326))) (Kd.R_lt (zR HO332))) (below_size zb)); replace HO311 := Aside0.mk (Kd.R_elder' (zR HO311) (Kd.R_base ho0) hb); replace HO317 := Aside0.mk (Kd.R_elder' (zR HO317) (Kd.R_base ho0) hb); replace HO323 := Aside0.mk (Kd.R_elder' (zR HO323) (Kd.R_base ho0) hb); replace HO326 := Aside0.mk (Kd.R_elder' (zR HO326) (Kd.R_base ho0) hb); replace HO332 := Aside0.mk (Kd.R_elder' (zR HO332) (Kd.R_base ho0) hb); replace HB := (zB hb); (try clear hb); (try clear hb2); (try clear hk); (try clear hi); (try clear ho0); obtain ⟨Ao156, co156, eo156⟩ := Kd.R_slice HO317.out; subst eo156; obtain ⟨Ao157, co157, eo157⟩ := Kd.R_slice HO340.out; subst eo157) | (go_at_call 18; (with_reducible refine (marginaliaref03_Same.calls k _ _ t315 _ _ t338 true _ ?side1 ?side2 ?side3 ?side4 A10.out).mono ?_); (case side1 => exact zE' (Kd.R_reads' HO317.out).2.2); (case side2 => exact (Kd.R_reads' HO317.out).2.1); (case side3 => exact zE' (Kd.R_reads' HO340.out).2.2); (case side4 => exact (Kd.R_reads' HO340.out).2.1); rintro e w' ⟨rfl, ⟨nd, rfl⟩⟩))
    go_ret; exact ⟨zr, zb⟩
  ·replace c11 := Bool.eq_false_iff.mpr c11; subst c11; replace H := zf H; obtain rfl := Option.some.inj H; go_enter Try.func14, Try.ntmps14
   go_wp2_with (first | ((with_reducible refine zG 39 rfl ?_); refine zg 11 Try.func39 ((marginalialaw04_sample.calls k  t309 _ A1.out).mono ?_); rintro e w158 ⟨v310, rfl, ho0, hb⟩; refine ⟨_, rfl, ?_⟩; have HO311 := Aside0.mk (Kd.R_lower ho0 (below_size zb)); replace HB := (zB hb); (try clear hb); (try clear hb2); (try clear hk); (try clear hi); (try clear ho0)) | ((with_reducible refine zD 13 rfl ?_); refine Kd.R_lit k39 _ 39 ?hg (N := 13) ?hd (xs := ([(⟨2, 3, (⟨#[120, 32, 121]⟩ : ByteArray)⟩ : S39)] : List (S39))) (inner := [.int .i64 2, .int .i64 3, .string (⟨#[120, 32, 121]⟩ : ByteArray)]) (ok := fun _ => True) (okp := fun _ => True) ?hr ?hp (fun _ hk => hk) trivial (Below.refl _ _) (Nat.le_refl _) (by simp) ?_; (case hd => rfl); (case hg => rfl); (case hr => first | (go_simp; done) | (go_simp; rfl)); (case hp => exact (Reps.c3 (show Kd.M k39 _ _ _ (⟨2, 3, (⟨#[120, 32, 121]⟩ : ByteArray)⟩ : S39) [.int .i64 2, .int .i64 3, .string (⟨#[120, 32, 121]⟩ : ByteArray)] from (k39_mkM _ _ _ (⟨2, 3, (⟨#[120, 32, 121]⟩ : ByteArray)⟩ : S39) )) (Reps.none _ _))); intro v313 w159 ho160 hb hg_ hnew_; clear hg_ hnew_; (first | rw [← Ny312.out] at ho160 | (simp only [Int.reduceToNat] at ho160; rw [← Ny312.out] at ho160)); replace HO311 := (zRb HO311 hb); have HO314 := Aside0.mk (Kd.R_lower ho160 (below_size zb)); replace HB := (zB hb); clear hb ho160; obtain ⟨Ao161, co161, eo161⟩ := Kd.R_slice HO311.out; subst eo161; obtain ⟨Ao162, co162, eo162⟩ := Kd.R_slice HO314.out; subst eo162) | ((with_reducible refine zG 12 rfl ?_); refine zg 14 Try.func12 ((relex_Relex.calls k (fun k_ => some k_ = (.slice Ao161 t309.length co161 : Value).ownBlock) _ _ t309 _ _ y312 t315 t318 t319 t320 _ ?side1 ?side2 ?side3 A2.out).mono ?_); (case side1 => exact Kd.R_V (Kd.R_tight rfl (Kd.R_apart' (HO311.out) (Kd.R_typed HO314.out) (by decide)))); (case side2 => exact zE' (Kd.R_reads' HO314.out).2.2); (case side3 => exact (Kd.R_reads' HO314.out).2.1); rintro e w163 ⟨v316, rfl, ho0, hb⟩; refine ⟨_, rfl, ?_⟩; replace HO314 := (zRb HO314 hb); have HO317 := Aside0.mk (Kd.R_lower (Kd.R_new' (Kd.R_mono (ok' := fun k_ => True) ho0 (fun _ hk_ => trivial)) (Kd.R_lt (zR HO311))) (below_size zb)); replace HO311 := Aside0.mk (Kd.R_elder' (zR HO311) (Kd.R_base ho0) hb); replace HB := (zB hb); (try clear hb); (try clear hb2); (try clear hk); (try clear hi); (try clear ho0)) | ((with_reducible refine zG 39 rfl ?_); refine zg 20 Try.func39 ((marginalialaw04_sample.calls k  t321 _ A3.out).mono ?_); rintro e w164 ⟨v322, rfl, ho0, hb⟩; refine ⟨_, rfl, ?_⟩; replace HO314 := (zRb HO314 hb); have HO323 := Aside0.mk (Kd.R_lower (Kd.R_new' (Kd.R_new' ho0 (Kd.R_lt (zR HO311))) (Kd.R_lt (zR HO317))) (below_size zb)); replace HO311 := Aside0.mk (Kd.R_elder' (zR HO311) (Kd.R_base ho0) hb); replace HO317 := Aside0.mk (Kd.R_elder' (zR HO317) (Kd.R_base ho0) hb); replace HB := (zB hb); (try clear hb); (try clear hb2); (try clear hk); (try clear hi); (try clear ho0)) | ((with_reducible refine zG 15 rfl ?_); refine zg 21 Try.func15 ((marginaliaref03_Lex.calls k (⟨#[97, 32, 100, 32, 99]⟩ : ByteArray) t324 _ A4.out).mono ?_); rintro e w165 ⟨v325, rfl, ho0, hb⟩; refine ⟨_, rfl, ?_⟩; replace HO314 := (zRb HO314 hb); have HO326 := Aside0.mk (Kd.R_lower (Kd.R_new' (Kd.R_new' (Kd.R_new' ho0 (Kd.R_lt (zR HO311))) (Kd.R_lt (zR HO317))) (Kd.R_lt (zR HO323))) (below_size zb)); replace HO311 := Aside0.mk (Kd.R_elder' (zR HO311) (Kd.R_base ho0) hb); replace HO317 := Aside0.mk (Kd.R_elder' (zR HO317) (Kd.R_base ho0) hb); replace HO323 := Aside0.mk (Kd.R_elder' (zR HO323) (Kd.R_base ho0) hb); replace HB := (zB hb); (try clear hb); (try clear hb2); (try clear hk); (try clear hi); (try clear ho0); obtain ⟨Ao166, co166, eo166⟩ := Kd.R_slice HO323.out; subst eo166; obtain ⟨Ao167, co167, eo167⟩ := Kd.R_slice HO326.out; subst eo167) | ((with_reducible refine zG 21 rfl ?_); refine zg 22 Try.func21 ((relex_Common.calls k _ _ t321 _ _ t324 t327 t328 t329 _ ?side1 ?side2 ?side3 ?side4 A5.out).mono ?_); (case side1 => exact zE' (Kd.R_reads' HO323.out).2.2); (case side2 => exact (Kd.R_reads' HO323.out).2.1); (case side3 => exact zE' (Kd.R_reads' HO326.out).2.2); (case side4 => exact (Kd.R_reads' HO326.out).2.1); rintro e w168 ⟨rfl, hb⟩; refine ⟨_, rfl, ?_⟩; replace HO311 := (zRb HO311 hb); replace HO314 := (zRb HO314 hb); replace HO317 := (zRb HO317 hb); replace HO323 := (zRb HO323 hb); replace HO326 := (zRb HO326 hb); replace HB := (zB hb); (try clear hb); (try clear hb2); (try clear hk); (try clear hi)) | ((with_reducible refine zG 39 rfl ?_); refine zg 27 Try.func39 ((marginalialaw04_sample.calls k  t330 _ A6.out).mono ?_); rintro e w169 ⟨v331, rfl, ho0, hb⟩; refine ⟨_, rfl, ?_⟩; replace HO314 := (zRb HO314 hb); have HO332 := Aside0.mk (Kd.R_lower (Kd.R_new' (Kd.R_new' (Kd.R_new' (Kd.R_new' ho0 (Kd.R_lt (zR HO311))) (Kd.R_lt (zR HO317))) (Kd.R_lt (zR HO323))) (Kd.R_lt (zR HO326))) (below_size zb)); replace HO311 := Aside0.mk (Kd.R_elder' (zR HO311) (Kd.R_base ho0) hb); replace HO317 := Aside0.mk (Kd.R_elder' (zR HO317) (Kd.R_base ho0) hb); replace HO323 := Aside0.mk (Kd.R_elder' (zR HO323) (Kd.R_base ho0) hb); replace HO326 := Aside0.mk (Kd.R_elder' (zR HO326) (Kd.R_base ho0) hb); replace HB := (zB hb); (try clear hb); (try clear hb2); (try clear hk); (try clear hi); (try clear ho0)) | ((with_reducible refine zD 29 rfl ?_); refine Kd.R_lit k39 _ 39 ?hg (N := 29) ?hd (xs := ([(⟨2, 3, (⟨#[120, 10, 121]⟩ : ByteArray)⟩ : S39)] : List (S39))) (inner := [.int .i64 2, .int .i64 3, .string (⟨#[120, 10, 121]⟩ : ByteArray)]) (ok := fun _ => True) (okp := fun _ => True) ?hr ?hp (fun _ hk => hk) trivial (Below.refl _ _) (Nat.le_refl _) (by simp) ?_; (case hd => rfl); (case hg => rfl); (case hr => first | (go_simp; done) | (go_simp; rfl)); (case hp => exact (Reps.c3 (show Kd.M k39 _ _ _ (⟨2, 3, (⟨#[120, 10, 121]⟩ : ByteArray)⟩ : S39) [.int .i64 2, .int .i64 3, .string (⟨#[120, 10, 121]⟩ : ByteArray)] from (k39_mkM _ _ _ (⟨2, 3, (⟨#[120, 10, 121]⟩ : ByteArray)⟩ : S39) )) (Reps.none _ _))); intro v334 w170 ho171 hb hg_ hnew_; clear hg_ hnew_; (first | rw [← Ny333.out] at ho171 | (simp only [Int.reduceToNat] at ho171; rw [← Ny333.out] at ho171)); replace HO311 := (zRb HO311 hb); replace HO317 := (zRb HO317 hb); replace HO323 := (zRb HO323 hb); replace HO326 := (zRb HO326 hb); replace HO332 := (zRb HO332 hb); have HO335 := Aside0.mk (Kd.R_lower (Kd.R_new' ho171 (Kd.R_lt (zR HO314))) (below_size zb)); replace HO314 := Aside0.mk (Kd.R_elder' (zR HO314) (Kd.R_base ho171) hb); replace HB := (zB hb); clear hb ho171; obtain ⟨Ao172, co172, eo172⟩ := Kd.R_slice HO332.out; subst eo172; obtain ⟨Ao173, co173, eo173⟩ := Kd.R_slice HO335.out; subst eo173) | ((with_reducible refine zG 23 rfl ?_); refine zg 30 Try.func23 ((relex_Line.calls k _ _ t330 _ _ y333 t336 t337 _ ?side1 ?side2 ?side3 ?side4 A7.out).mono ?_); (case side1 => exact zE' (Kd.R_reads' HO332.out).2.2); (case side2 => exact (Kd.R_reads' HO332.out).2.1); (case side3 => exact zE' (Kd.R_reads' HO335.out).2.2); (case side4 => exact (Kd.R_reads' HO335.out).2.1); rintro e w174 ⟨rfl, hb⟩; refine ⟨_, rfl, ?_⟩; replace HO311 := (zRb HO311 hb); replace HO314 := (zRb HO314 hb); replace HO317 := (zRb HO317 hb); replace HO323 := (zRb HO323 hb); replace HO326 := (zRb HO326 hb); replace HO332 := (zRb HO332 hb); replace HO335 := (zRb HO335 hb); replace HB := (zB hb); (try clear hb); (try clear hb2); (try clear hk); (try clear hi)) | (go_at_call 15; (with_reducible refine (marginaliaref03_Lex.calls k (⟨#[97, 32, 120, 32, 121, 32, 99]⟩ : ByteArray) t338 _ A9.out).mono ?_); rintro e w175 ⟨v339, rfl, ho0, hb⟩; replace HO314 := (zRb HO314 hb); replace HO335 := (zRb HO335 hb); have HO340 := Aside0.mk (Kd.R_lower (Kd.R_new' (Kd.R_new' (Kd.R_new' (Kd.R_new' (Kd.R_new' ho0 (Kd.R_lt (zR HO311))) (Kd.R_lt (zR HO317))) (Kd.R_lt (zR HO323))) (Kd.R_lt (zR HO326))) (Kd.R_lt (zR HO332))) (below_size zb)); replace HO311 := Aside0.mk (Kd.R_elder' (zR HO311) (Kd.R_base ho0) hb); replace HO317 := Aside0.mk (Kd.R_elder' (zR HO317) (Kd.R_base ho0) hb); replace HO323 := Aside0.mk (Kd.R_elder' (zR HO323) (Kd.R_base ho0) hb); replace HO326 := Aside0.mk (Kd.R_elder' (zR HO326) (Kd.R_base ho0) hb); replace HO332 := Aside0.mk (Kd.R_elder' (zR HO332) (Kd.R_base ho0) hb); replace HB := (zB hb); (try clear hb); (try clear hb2); (try clear hk); (try clear hi); (try clear ho0); obtain ⟨Ao176, co176, eo176⟩ := Kd.R_slice HO317.out; subst eo176; obtain ⟨Ao177, co177, eo177⟩ := Kd.R_slice HO340.out; subst eo177) | (go_at_call 18; (with_reducible refine (marginaliaref03_Same.calls k _ _ t315 _ _ t338 false _ ?side1 ?side2 ?side3 ?side4 A10.out).mono ?_); (case side1 => exact zE' (Kd.R_reads' HO317.out).2.2); (case side2 => exact (Kd.R_reads' HO317.out).2.1); (case side3 => exact zE' (Kd.R_reads' HO340.out).2.2); (case side4 => exact (Kd.R_reads' HO340.out).2.1); rintro e w' ⟨rfl, ⟨nd, rfl⟩⟩))
   go_ret; exact ⟨zr, zb⟩
 ·rw [if_neg c8] at H; have c8b0 : (t320 == 0) = false := beq_eq_false_iff_ne.mpr c8; have c8b1 : (t320 != 0) = true := bne_iff_ne.mpr c8; obtain rfl := Option.some.inj H; go_enter Try.func14, Try.ntmps14
  go_wp2_with (first | ((with_reducible refine zG 39 rfl ?_); refine zg 11 Try.func39 ((marginalialaw04_sample.calls k  t309 _ A1.out).mono ?_); rintro e w178 ⟨v310, rfl, ho0, hb⟩; refine ⟨_, rfl, ?_⟩; have HO311 := Aside0.mk (Kd.R_lower ho0 (below_size zb)); replace HB := (zB hb); (try clear hb); (try clear hb2); (try clear hk); (try clear hi); (try clear ho0)) | ((with_reducible refine zD 13 rfl ?_); refine Kd.R_lit k39 _ 39 ?hg (N := 13) ?hd (xs := ([(⟨2, 3, (⟨#[120, 32, 121]⟩ : ByteArray)⟩ : S39)] : List (S39))) (inner := [.int .i64 2, .int .i64 3, .string (⟨#[120, 32, 121]⟩ : ByteArray)]) (ok := fun _ => True) (okp := fun _ => True) ?hr ?hp (fun _ hk => hk) trivial (Below.refl _ _) (Nat.le_refl _) (by simp) ?_; (case hd => rfl); (case hg => rfl); (case hr => first | (go_simp; done) | (go_simp; rfl)); (case hp => exact (Reps.c3 (show Kd.M k39 _ _ _ (⟨2, 3, (⟨#[120, 32, 121]⟩ : ByteArray)⟩ : S39) [.int .i64 2, .int .i64 3, .string (⟨#[120, 32, 121]⟩ : ByteArray)] from (k39_mkM _ _ _ (⟨2, 3, (⟨#[120, 32, 121]⟩ : ByteArray)⟩ : S39) )) (Reps.none _ _))); intro v313 w179 ho180 hb hg_ hnew_; clear hg_ hnew_; (first | rw [← Ny312.out] at ho180 | (simp only [Int.reduceToNat] at ho180; rw [← Ny312.out] at ho180)); replace HO311 := (zRb HO311 hb); have HO314 := Aside0.mk (Kd.R_lower ho180 (below_size zb)); replace HB := (zB hb); clear hb ho180; obtain ⟨Ao181, co181, eo181⟩ := Kd.R_slice HO311.out; subst eo181; obtain ⟨Ao182, co182, eo182⟩ := Kd.R_slice HO314.out; subst eo182) | ((with_reducible refine zG 12 rfl ?_); refine zg 14 Try.func12 ((relex_Relex.calls k (fun k_ => some k_ = (.slice Ao181 t309.length co181 : Value).ownBlock) _ _ t309 _ _ y312 t315 t318 t319 t320 _ ?side1 ?side2 ?side3 A2.out).mono ?_); (case side1 => exact Kd.R_V (Kd.R_tight rfl (Kd.R_apart' (HO311.out) (Kd.R_typed HO314.out) (by decide)))); (case side2 => exact zE' (Kd.R_reads' HO314.out).2.2); (case side3 => exact (Kd.R_reads' HO314.out).2.1); rintro e w183 ⟨v316, rfl, ho0, hb⟩; refine ⟨_, rfl, ?_⟩; replace HO314 := (zRb HO314 hb); have HO317 := Aside0.mk (Kd.R_lower (Kd.R_new' (Kd.R_mono (ok' := fun k_ => True) ho0 (fun _ hk_ => trivial)) (Kd.R_lt (zR HO311))) (below_size zb)); replace HO311 := Aside0.mk (Kd.R_elder' (zR HO311) (Kd.R_base ho0) hb); replace HB := (zB hb); (try clear hb); (try clear hb2); (try clear hk); (try clear hi); (try clear ho0)) | ((with_reducible refine zG 39 rfl ?_); refine zg 20 Try.func39 ((marginalialaw04_sample.calls k  t321 _ A3.out).mono ?_); rintro e w184 ⟨v322, rfl, ho0, hb⟩; refine ⟨_, rfl, ?_⟩; replace HO314 := (zRb HO314 hb); have HO323 := Aside0.mk (Kd.R_lower (Kd.R_new' (Kd.R_new' ho0 (Kd.R_lt (zR HO311))) (Kd.R_lt (zR HO317))) (below_size zb)); replace HO311 := Aside0.mk (Kd.R_elder' (zR HO311) (Kd.R_base ho0) hb); replace HO317 := Aside0.mk (Kd.R_elder' (zR HO317) (Kd.R_base ho0) hb); replace HB := (zB hb); (try clear hb); (try clear hb2); (try clear hk); (try clear hi); (try clear ho0)) | ((with_reducible refine zG 15 rfl ?_); refine zg 21 Try.func15 ((marginaliaref03_Lex.calls k (⟨#[97, 32, 100, 32, 99]⟩ : ByteArray) t324 _ A4.out).mono ?_); rintro e w185 ⟨v325, rfl, ho0, hb⟩; refine ⟨_, rfl, ?_⟩; replace HO314 := (zRb HO314 hb); have HO326 := Aside0.mk (Kd.R_lower (Kd.R_new' (Kd.R_new' (Kd.R_new' ho0 (Kd.R_lt (zR HO311))) (Kd.R_lt (zR HO317))) (Kd.R_lt (zR HO323))) (below_size zb)); replace HO311 := Aside0.mk (Kd.R_elder' (zR HO311) (Kd.R_base ho0) hb); replace HO317 := Aside0.mk (Kd.R_elder' (zR HO317) (Kd.R_base ho0) hb); replace HO323 := Aside0.mk (Kd.R_elder' (zR HO323) (Kd.R_base ho0) hb); replace HB := (zB hb); (try clear hb); (try clear hb2); (try clear hk); (try clear hi); (try clear ho0); obtain ⟨Ao186, co186, eo186⟩ := Kd.R_slice HO323.out; subst eo186; obtain ⟨Ao187, co187, eo187⟩ := Kd.R_slice HO326.out; subst eo187) | ((with_reducible refine zG 21 rfl ?_); refine zg 22 Try.func21 ((relex_Common.calls k _ _ t321 _ _ t324 t327 t328 t329 _ ?side1 ?side2 ?side3 ?side4 A5.out).mono ?_); (case side1 => exact zE' (Kd.R_reads' HO323.out).2.2); (case side2 => exact (Kd.R_reads' HO323.out).2.1); (case side3 => exact zE' (Kd.R_reads' HO326.out).2.2); (case side4 => exact (Kd.R_reads' HO326.out).2.1); rintro e w188 ⟨rfl, hb⟩; refine ⟨_, rfl, ?_⟩; replace HO311 := (zRb HO311 hb); replace HO314 := (zRb HO314 hb); replace HO317 := (zRb HO317 hb); replace HO323 := (zRb HO323 hb); replace HO326 := (zRb HO326 hb); replace HB := (zB hb); (try clear hb); (try clear hb2); (try clear hk); (try clear hi)) | ((with_reducible refine zG 39 rfl ?_); refine zg 27 Try.func39 ((marginalialaw04_sample.calls k  t330 _ A6.out).mono ?_); rintro e w189 ⟨v331, rfl, ho0, hb⟩; refine ⟨_, rfl, ?_⟩; replace HO314 := (zRb HO314 hb); have HO332 := Aside0.mk (Kd.R_lower (Kd.R_new' (Kd.R_new' (Kd.R_new' (Kd.R_new' ho0 (Kd.R_lt (zR HO311))) (Kd.R_lt (zR HO317))) (Kd.R_lt (zR HO323))) (Kd.R_lt (zR HO326))) (below_size zb)); replace HO311 := Aside0.mk (Kd.R_elder' (zR HO311) (Kd.R_base ho0) hb); replace HO317 := Aside0.mk (Kd.R_elder' (zR HO317) (Kd.R_base ho0) hb); replace HO323 := Aside0.mk (Kd.R_elder' (zR HO323) (Kd.R_base ho0) hb); replace HO326 := Aside0.mk (Kd.R_elder' (zR HO326) (Kd.R_base ho0) hb); replace HB := (zB hb); (try clear hb); (try clear hb2); (try clear hk); (try clear hi); (try clear ho0)) | ((with_reducible refine zD 29 rfl ?_); refine Kd.R_lit k39 _ 39 ?hg (N := 29) ?hd (xs := ([(⟨2, 3, (⟨#[120, 10, 121]⟩ : ByteArray)⟩ : S39)] : List (S39))) (inner := [.int .i64 2, .int .i64 3, .string (⟨#[120, 10, 121]⟩ : ByteArray)]) (ok := fun _ => True) (okp := fun _ => True) ?hr ?hp (fun _ hk => hk) trivial (Below.refl _ _) (Nat.le_refl _) (by simp) ?_; (case hd => rfl); (case hg => rfl); (case hr => first | (go_simp; done) | (go_simp; rfl)); (case hp => exact (Reps.c3 (show Kd.M k39 _ _ _ (⟨2, 3, (⟨#[120, 10, 121]⟩ : ByteArray)⟩ : S39) [.int .i64 2, .int .i64 3, .string (⟨#[120, 10, 121]⟩ : ByteArray)] from (k39_mkM _ _ _ (⟨2, 3, (⟨#[120, 10, 121]⟩ : ByteArray)⟩ : S39) )) (Reps.none _ _))); intro v334 w190 ho191 hb hg_ hnew_; clear hg_ hnew_; (first | rw [← Ny333.out] at ho191 | (simp only [Int.reduceToNat] at ho191; rw [← Ny333.out] at ho191)); replace HO311 := (zRb HO311 hb); replace HO317 := (zRb HO317 hb); replace HO323 := (zRb HO323 hb); replace HO326 := (zRb HO326 hb); replace HO332 := (zRb HO332 hb); have HO335 := Aside0.mk (Kd.R_lower (Kd.R_new' ho191 (Kd.R_lt (zR HO314))) (below_size zb)); replace HO314 := Aside0.mk (Kd.R_elder' (zR HO314) (Kd.R_base ho191) hb); replace HB := (zB hb); clear hb ho191; obtain ⟨Ao192, co192, eo192⟩ := Kd.R_slice HO332.out; subst eo192; obtain ⟨Ao193, co193, eo193⟩ := Kd.R_slice HO335.out; subst eo193) | ((with_reducible refine zG 23 rfl ?_); refine zg 30 Try.func23 ((relex_Line.calls k _ _ t330 _ _ y333 t336 t337 _ ?side1 ?side2 ?side3 ?side4 A7.out).mono ?_); (case side1 => exact zE' (Kd.R_reads' HO332.out).2.2); (case side2 => exact (Kd.R_reads' HO332.out).2.1); (case side3 => exact zE' (Kd.R_reads' HO335.out).2.2); (case side4 => exact (Kd.R_reads' HO335.out).2.1); rintro e w194 ⟨rfl, hb⟩; refine ⟨_, rfl, ?_⟩; replace HO311 := (zRb HO311 hb); replace HO314 := (zRb HO314 hb); replace HO317 := (zRb HO317 hb); replace HO323 := (zRb HO323 hb); replace HO326 := (zRb HO326 hb); replace HO332 := (zRb HO332 hb); replace HO335 := (zRb HO335 hb); replace HB := (zB hb); (try clear hb); (try clear hb2); (try clear hk); (try clear hi)))
  go_ret; exact ⟨zr, zb⟩

end Go.Proofs.Ytahcpappailjgaa.P

namespace Go.Proofs.Ytahcpappailjgaa.P
open Go.RowKit Go.Proofs.YtahcpappailjgaaW.PrintWords Go.Proofs.YtahcpappailjgaaW.PrintLast Go.Proofs.YtahcpappailjgaaW.PrintMore
attribute [local go_sem] max2_int min2_int max_two min_two max_three min_three max_four min_four
set_option linter.unusedVariables false
set_option linter.unusedSimpArgs false

/-! ### marginaliaref01_Short: function 25 -/
def marginaliaref01_Short.f (a0 : ByteArray) : Option (ByteArray) := if 0 ≤ (mn (a0.size : Int) 20001) then (if (mn (a0.size : Int) 20001) ≤ (a0.size : Int) then (some (a0.extract 0 ((mn (a0.size : Int) 20001) : Int).toNat)) else (none)) else (none)
set_option maxHeartbeats 8000000 in
set_option maxRecDepth 100000 in
theorem marginaliaref01_Short.calls (a0 : ByteArray) (r : ByteArray) (w : World) (h : marginaliaref01_Short.f a0 = some r) :
  Calls Try.prog 25 #[.string a0] w fun e w' => e = .returned (.string r) ∧ Below w.heap.size w w' := by
 have HB := Aside0.mk (Below.refl w.heap.size w); have H : (if 0 ≤ (mn (a0.size : Int) 20001) then (if (mn (a0.size : Int) 20001) ≤ (a0.size : Int) then (some (a0.extract 0 ((mn (a0.size : Int) 20001) : Int).toNat)) else (none)) else (none)) = some r := h; clear h
 obtain ⟨ji2, hji2⟩ : ∃ j_ : Int, (mn (a0.size : Int) 20001) = j_ := ⟨_, rfl⟩
 replace H : (if 0 ≤ (ji2) then (if (ji2) ≤ (a0.size : Int) then (some (a0.extract 0 ((ji2) : Int).toNat)) else (none)) else (none)) = some r := by first | (rw [hji2] at H; exact H) | (simp only [hji2] at H ⊢; exact H)
 (try (have hji2h : ji2 ≤ 20001 := by (rw [← hji2]; unfold mn; (repeat' split) <;> omega)))
 (try (have hji2g : ji2 ≤ 64 := by omega))
 (try (have hji2l : 0 ≤ ji2 := by (rw [← hji2]; unfold mn; (repeat' split) <;> omega)))
 (try (have hji2m : 0 ≤ ji2 := by omega))
 have hji2_ : (if 20001 < (a0.size : Int) then 20001 else (a0.size : Int)) = ji2 := hji2; replace H := zi2 H; obtain ⟨c3b0, c3b1, H⟩ := H; replace H := zi2 H; obtain ⟨c4b0, c4b1, H⟩ := H; obtain rfl := Option.some.inj H; go_enter Try.func25, Try.ntmps25; go_wp2; go_ret; exact ⟨by first | rfl | (simp [errW_none, errW_some] <;> rfl) | (simp only [← hji2]; first | rfl | (simp [errW_none, errW_some] <;> rfl)) | (simp [*, errW_none, errW_some] <;> rfl), zb⟩

/-! ### marginalialaw04_RelexBack: function 7 -/
def marginalialaw04_RelexBack.j0 : Nat → List (S39) → List (S59) → List (S39) → Bool → Option (Bool)
 | 0, _, _, _, _ => none
 | k + 1, x6, x7, x9, x39 => if x39 = true then ((marginalialaw04_alive.f k).bind fun t475 => (some t475)) else ((relex_Relex.f k x7 x6).bind fun bt476 => ((relex_Relex.f k bt476.1 x9).bind fun bt482 => (if bt476.2.2.2 = 0 then (if bt482.2.2.2 = 0 then ((marginaliaref03_Same.f k bt482.1 x7).bind fun t488 => (if t488 = true then ((marginalialaw04_alive.f k).bind fun t489 => (some t489)) else (some false))) else (some false)) else (some false))))
def marginalialaw04_RelexBack.f (k : Nat) (a0 : ByteArray) (l1 : List (S39)) : Option (Bool) := (marginaliaref01_Short.f a0).bind fun t463 => ((marginaliaref01_Cut.f k l1 2000).bind fun t464 => ((token_Lex.f k t463).bind fun bt467 => ((rope_Invert.f k t463 t464).bind fun bt471 => (if bt467.2 = 0 then (marginalialaw04_RelexBack.j0 k t464 bt467.1 bt471.1 (bt471.2 != 0)) else (marginalialaw04_RelexBack.j0 k t464 bt467.1 bt471.1 true)))))
set_option maxHeartbeats 8000000 in
set_option maxRecDepth 100000 in
theorem marginalialaw04_RelexBack.calls (k : Nat) (a0 : ByteArray) (A1 : Option Addr) (c1 : Nat) (l1 : List (S39)) (r : Bool) (w : World) (hr1 : Kd.C k39 w A1 l1.length l1) (hc1 : l1.length ≤ c1) (h : marginalialaw04_RelexBack.f k a0 l1 = some r) :
  Calls Try.prog 7 #[.string a0, .slice A1 l1.length c1] w fun e w' => e = .returned (.bool r) ∧ Below w.heap.size w w' := by
 have HR1 := Aside0.mk hr1; have HC1 := Aside0.mk hc1; clear hr1 hc1; have HB := Aside0.mk (Below.refl w.heap.size w); have H : ((marginaliaref01_Short.f a0).bind fun t463 => ((marginaliaref01_Cut.f k l1 2000).bind fun t464 => ((token_Lex.f k t463).bind fun bt467 => ((rope_Invert.f k t463 t464).bind fun bt471 => (if bt467.2 = 0 then (marginalialaw04_RelexBack.j0 k t464 bt467.1 bt471.1 (bt471.2 != 0)) else (marginalialaw04_RelexBack.j0 k t464 bt467.1 bt471.1 true)))))) = some r := h; clear h; replace H := zo H; obtain ⟨t463, A3, H⟩ := H; replace H := zo H; obtain ⟨t464, A4, H⟩ := H; replace H := Option.bind_eq_some_iff.mp H; obtain ⟨⟨t467, t468⟩, A50, H⟩ := H; replace H : ((rope_Invert.f k t463 t464).bind fun bt471 => (if t468 = 0 then (marginalialaw04_RelexBack.j0 k t464 t467 bt471.1 (bt471.2 != 0)) else (marginalialaw04_RelexBack.j0 k t464 t467 bt471.1 true))) = some r := H; have A5 := Aside0.mk A50; clear A50; replace H := Option.bind_eq_some_iff.mp H; obtain ⟨⟨t471, t472⟩, A60, H⟩ := H; replace H : (if t468 = 0 then (marginalialaw04_RelexBack.j0 k t464 t467 t471 (t472 != 0)) else (marginalialaw04_RelexBack.j0 k t464 t467 t471 true)) = some r := H; have A6 := Aside0.mk A60; clear A60; have HC7 := Aside0.mk H; clear H; go_enter Try.func7, Try.ntmps7
 go_upto_region 4 with (first | ((with_reducible refine zG 25 rfl ?_); refine zg 20 Try.func25 ((marginaliaref01_Short.calls a0 t463 _ A3.out).mono ?_); rintro e w8 ⟨rfl, hb⟩; refine ⟨_, rfl, ?_⟩; replace HB := (zB hb); (try clear hb); (try clear hb2); (try clear hk); (try clear hi)) | ((with_reducible refine zG 11 rfl ?_); refine zg 22 Try.func11 ((marginaliaref01_Cut.calls k _ _ l1 2000 t464 _ ?side1 ?side2 A4.out).mono ?_); (case side1 => exact zC HR1); (case side2 => exact HC1.out); rintro e w9 ⟨v465, rfl, ho0, hb⟩; refine ⟨_, rfl, ?_⟩; have HO466 := Aside0.mk (Kd.R_lower ho0 (below_size zb)); replace HB := (zB hb); (try clear hb); (try clear hb2); (try clear hk); (try clear hi); (try clear ho0)) | ((with_reducible refine zG 26 rfl ?_); refine zg 25 Try.func26 ((token_Lex.calls k t463 t467 t468 _ A5.out).mono ?_); rintro e w10 ⟨v469, rfl, ho0, hb⟩; refine ⟨_, rfl, ?_⟩; replace HO466 := (zRb HO466 hb); have HO470 := Aside0.mk (Kd.R_lower ho0 (below_size zb)); replace HB := (zB hb); (try clear hb); (try clear hb2); (try clear hk); (try clear hi); (try clear ho0); obtain ⟨Ao11, co11, eo11⟩ := Kd.R_slice HO466.out; subst eo11) | ((with_reducible refine zG 28 rfl ?_); refine zg 31 Try.func28 ((rope_Invert.calls k t463 _ _ t464 t471 t472 _ ?side1 ?side2 A6.out).mono ?_); (case side1 => exact zE' (Kd.R_reads' HO466.out).2.2); (case side2 => exact (Kd.R_reads' HO466.out).2.1); rintro e w12 ⟨v473, rfl, ho0, hb⟩; refine ⟨_, rfl, ?_⟩; replace HO470 := (zRb HO470 hb); have HO474 := Aside0.mk (Kd.R_lower (Kd.R_new' ho0 (Kd.R_lt (zR HO466))) (below_size zb)); replace HO466 := Aside0.mk (Kd.R_elder' (zR HO466) (Kd.R_base ho0) hb); replace HB := (zB hb); (try clear hb); (try clear hb2); (try clear hk); (try clear hi); (try clear ho0)))
 (try simp only [Act.put, List.setIfInBounds_toArray, List.set_cons_zero, List.set_cons_succ])
 go_cut [39] (fun v39 wc => ∃ (kq : Nat) (x39_6 : Bool), v39 = .bool x39_6 ∧ Aside0 (marginalialaw04_RelexBack.j0 kq t464 t467 t471 x39_6 = some r) ∧ Aside0 (kq ≤ k) ∧ Aside0 (Kd.R k39 39 wc w.heap.size (fun k_ => some k_ ≠ (v473 : Value).ownBlock) (.slice Ao11 t464.length co11) t464) ∧ Aside0 (Kd.R k59 59 wc w.heap.size (fun _ => True) v469 t467) ∧ Aside0 (Kd.R k39 39 wc w.heap.size (fun k_ => some k_ ≠ ((.slice Ao11 t464.length co11) : Value).ownBlock) v473 t471) ∧ Aside0 (Below w.heap.size w wc))
 case first =>
  have H := HC7.out; clear HC7; by_cases c13 : t468 = 0
  ·rw [if_pos c13] at H; have c13b0 : (t468 == 0) = true := beq_iff_eq.mpr c13; have c13b1 : (t468 != 0) = false := bne_eq_false_iff_eq.mpr c13; clear c13
   (first | rw [c13b0] | (simp only [i64_w, i32_w]; rw [c13b0]) | skip)
   have H' := Aside0.mk H; clear H; go_wp2
   go_meet
   case rel => exact ⟨_, ((t472 != 0)), zs, H', ⟨by first | omega | exact Nat.le_refl _⟩, ⟨by (with_reducible repeat (first | apply Kd.R_alloc | apply Kd.R_drewN | apply Kd.R_drew)); exact Kd.R_mono HO466.out (fun _ hk => hk.2)⟩, ⟨by (with_reducible repeat (first | apply Kd.R_alloc | apply Kd.R_drewN | apply Kd.R_drew)); exact HO470.out⟩, ⟨by (with_reducible repeat (first | apply Kd.R_alloc | apply Kd.R_drewN | apply Kd.R_drew)); exact Kd.R_mono HO474.out (fun _ hk => hk.2)⟩, ⟨zb⟩⟩
  ·rw [if_neg c13] at H; have c13b0 : (t468 == 0) = false := beq_eq_false_iff_ne.mpr c13; have c13b1 : (t468 != 0) = true := bne_iff_ne.mpr c13
   (first | rw [c13b0] | (simp only [i64_w, i32_w]; rw [c13b0]) | skip)
   have H' := Aside0.mk H; clear H; go_wp2
   go_meet
   case rel => exact ⟨_, (true), zs, H', ⟨by first | omega | exact Nat.le_refl _⟩, ⟨by (with_reducible repeat (first | apply Kd.R_alloc | apply Kd.R_drewN | apply Kd.R_drew)); exact Kd.R_mono HO466.out (fun _ hk => hk.2)⟩, ⟨by (with_reducible repeat (first | apply Kd.R_alloc | apply Kd.R_drewN | apply Kd.R_drew)); exact HO470.out⟩, ⟨by (with_reducible repeat (first | apply Kd.R_alloc | apply Kd.R_drewN | apply Kd.R_drew)); exact Kd.R_mono HO474.out (fun _ hk => hk.2)⟩, ⟨zb⟩⟩
 case rest =>
  clear HC7; obtain ⟨kq, x39_6, rfl, HA, HJ6, HO_6, HO_7, HO_9, HB⟩ := hcut
  cases kq with
  | zero => exact absurd HA.out (by simp [marginalialaw04_RelexBack.j0])
  | succ kj6 =>
   have H := HA.out; clear HA; simp only [marginalialaw04_RelexBack.j0] at H; by_cases c14 : x39_6 = true
   ·subst c14; rw [if_pos rfl] at H; replace H := zo H; obtain ⟨t475, A15, H⟩ := H; obtain rfl := Option.some.inj H
    go_wp2_with (first | ((with_reducible refine zG 14 rfl ?_); refine zg 40 Try.func14 ((marginalialaw04_alive.calls kj6  t475 _ A15.out).mono ?_); rintro e w16 ⟨rfl, hb⟩; refine ⟨_, rfl, ?_⟩; replace HO_6 := (zRb HO_6 hb); replace HO_7 := (zRb HO_7 hb); replace HO_9 := (zRb HO_9 hb); replace HB := (zB hb); (try clear hb); (try clear hb2); (try clear hk); (try clear hi)))
    go_ret; exact ⟨zr, zb⟩
   ·replace c14 := Bool.eq_false_iff.mpr c14; subst c14; replace H := zf H; replace H := Option.bind_eq_some_iff.mp H; obtain ⟨⟨t476, t479, t480, t481⟩, A170, H⟩ := H; replace H : ((relex_Relex.f kj6 t476 t471).bind fun bt482 => (if t481 = 0 then (if bt482.2.2.2 = 0 then ((marginaliaref03_Same.f kj6 bt482.1 t467).bind fun t488 => (if t488 = true then ((marginalialaw04_alive.f kj6).bind fun t489 => (some t489)) else (some false))) else (some false)) else (some false))) = some r := H; have A17 := Aside0.mk A170; clear A170; replace H := Option.bind_eq_some_iff.mp H; obtain ⟨⟨t482, t485, t486, t487⟩, A180, H⟩ := H; replace H : (if t481 = 0 then (if t487 = 0 then ((marginaliaref03_Same.f kj6 t482 t467).bind fun t488 => (if t488 = true then ((marginalialaw04_alive.f kj6).bind fun t489 => (some t489)) else (some false))) else (some false)) else (some false)) = some r := H; have A18 := Aside0.mk A180; clear A180; by_cases c19 : t481 = 0
    ·rw [if_pos c19] at H; have c19b0 : (t481 == 0) = true := beq_iff_eq.mpr c19; have c19b1 : (t481 != 0) = false := bne_eq_false_iff_eq.mpr c19; clear c19; by_cases c20 : t487 = 0
     ·rw [if_pos c20] at H; have c20b0 : (t487 == 0) = true := beq_iff_eq.mpr c20; have c20b1 : (t487 != 0) = false := bne_eq_false_iff_eq.mpr c20; clear c20; replace H := zo H; obtain ⟨t488, A21, H⟩ := H; by_cases c22 : t488 = true
      ·subst c22; rw [if_pos rfl] at H; replace H := zo H; obtain ⟨t489, A23, H⟩ := H; obtain rfl := Option.some.inj H; obtain ⟨Ao24, co24, eo24⟩ := Kd.R_slice HO_7.out; subst eo24
       go_wp2_with (first | ((with_reducible refine zG 12 rfl ?_); refine zg 44 Try.func12 ((relex_Relex.calls kj6 (fun k_ => some k_ = (.slice Ao24 t467.length co24 : Value).ownBlock) _ _ t467 _ _ t464 t476 t479 t480 t481 _ ?side1 ?side2 ?side3 A17.out).mono ?_); (case side1 => exact Kd.R_V (Kd.R_tight rfl (Kd.R_apart' (Kd.R_apart' (HO_7.out) (Kd.R_typed HO_6.out) (by decide)) (Kd.R_typed HO_9.out) (by decide)))); (case side2 => exact zE' (Kd.R_reads' HO_6.out).2.2); (case side3 => exact (Kd.R_reads' HO_6.out).2.1); rintro e w25 ⟨v477, rfl, ho0, hb⟩; refine ⟨_, rfl, ?_⟩; replace HO_6 := (zRb HO_6 hb); replace HO_9 := (zRb HO_9 hb); have HO478 := Aside0.mk (Kd.R_lower (Kd.R_new' (Kd.R_mono (ok' := fun k_ => True) ho0 (fun _ hk_ => trivial)) (Kd.R_lt (zR HO_7))) (below_size zb)); replace HO_7 := Aside0.mk (Kd.R_elder' (zR HO_7) (Kd.R_base ho0) hb); replace HB := (zB hb); (try clear hb); (try clear hb2); (try clear hk); (try clear hi); (try clear ho0); obtain ⟨Ao26, co26, eo26⟩ := Kd.R_slice HO478.out; subst eo26; obtain ⟨Ao27, co27, eo27⟩ := Kd.R_slice HO_9.out; subst eo27) | ((with_reducible refine zG 12 rfl ?_); refine zg 52 Try.func12 ((relex_Relex.calls kj6 (fun k_ => some k_ = (.slice Ao26 t476.length co26 : Value).ownBlock) _ _ t476 _ _ t471 t482 t485 t486 t487 _ ?side1 ?side2 ?side3 A18.out).mono ?_); (case side1 => exact Kd.R_V (Kd.R_tight rfl (Kd.R_apart' (Kd.R_apart' (HO478.out) (Kd.R_typed HO_6.out) (by decide)) (Kd.R_typed HO_9.out) (by decide)))); (case side2 => exact zE' (Kd.R_reads' HO_9.out).2.2); (case side3 => exact (Kd.R_reads' HO_9.out).2.1); rintro e w28 ⟨v483, rfl, ho0, hb⟩; refine ⟨_, rfl, ?_⟩; replace HO_6 := (zRb HO_6 hb); replace HO_9 := (zRb HO_9 hb); have HO484 := Aside0.mk (Kd.R_lower (Kd.R_new' (Kd.R_new' (Kd.R_mono (ok' := fun k_ => True) ho0 (fun _ hk_ => trivial)) (Kd.R_lt (zR HO_7))) (Kd.R_lt (zR HO478))) (below_size zb)); replace HO_7 := Aside0.mk (Kd.R_elder' (zR HO_7) (Kd.R_base ho0) hb); replace HO478 := Aside0.mk (Kd.R_elder' (zR HO478) (Kd.R_base ho0) hb); replace HB := (zB hb); (try clear hb); (try clear hb2); (try clear hk); (try clear hi); (try clear ho0); obtain ⟨Ao29, co29, eo29⟩ := Kd.R_slice HO484.out; subst eo29) | (go_at_call 18; (with_reducible refine (marginaliaref03_Same.calls kj6 _ _ t482 _ _ t467 true _ ?side1 ?side2 ?side3 ?side4 A21.out).mono ?_); (case side1 => exact zE' (Kd.R_reads' HO484.out).2.2); (case side2 => exact (Kd.R_reads' HO484.out).2.1); (case side3 => exact zE' (Kd.R_reads' HO_7.out).2.2); (case side4 => exact (Kd.R_reads' HO_7.out).2.1); rintro e w' ⟨rfl, ⟨nd, rfl⟩⟩) | (go_at_call 14; (with_reducible refine (marginalialaw04_alive.calls kj6  t489 _ A23.out).mono ?_); rintro e w30 ⟨rfl, hb⟩; replace HO_6 := (zRb HO_6 hb); replace HO_7 := (zRb HO_7 hb); replace HO_9 := (zRb HO_9 hb); replace HO478 := (zRb HO478 hb); replace HO484 := (zRb HO484 hb); replace HB := (zB hb); (try clear hb); (try clear hb2); (try clear hk); (try clear hi)))
       go_ret; exact ⟨zr, zb⟩
      ·replace c22 := Bool.eq_false_iff.mpr c22; subst c22; replace H := zf H; obtain rfl := Option.some.inj H; obtain ⟨Ao31, co31, eo31⟩ := Kd.R_slice HO_7.out; subst eo31
       go_wp2_with (first | ((with_reducible refine zG 12 rfl ?_); refine zg 44 Try.func12 ((relex_Relex.calls kj6 (fun k_ => some k_ = (.slice Ao31 t467.length co31 : Value).ownBlock) _ _ t467 _ _ t464 t476 t479 t480 t481 _ ?side1 ?side2 ?side3 A17.out).mono ?_); (case side1 => exact Kd.R_V (Kd.R_tight rfl (Kd.R_apart' (Kd.R_apart' (HO_7.out) (Kd.R_typed HO_6.out) (by decide)) (Kd.R_typed HO_9.out) (by decide)))); (case side2 => exact zE' (Kd.R_reads' HO_6.out).2.2); (case side3 => exact (Kd.R_reads' HO_6.out).2.1); rintro e w32 ⟨v477, rfl, ho0, hb⟩; refine ⟨_, rfl, ?_⟩; replace HO_6 := (zRb HO_6 hb); replace HO_9 := (zRb HO_9 hb); have HO478 := Aside0.mk (Kd.R_lower (Kd.R_new' (Kd.R_mono (ok' := fun k_ => True) ho0 (fun _ hk_ => trivial)) (Kd.R_lt (zR HO_7))) (below_size zb)); replace HO_7 := Aside0.mk (Kd.R_elder' (zR HO_7) (Kd.R_base ho0) hb); replace HB := (zB hb); (try clear hb); (try clear hb2); (try clear hk); (try clear hi); (try clear ho0); obtain ⟨Ao33, co33, eo33⟩ := Kd.R_slice HO478.out; subst eo33; obtain ⟨Ao34, co34, eo34⟩ := Kd.R_slice HO_9.out; subst eo34) | ((with_reducible refine zG 12 rfl ?_); refine zg 52 Try.func12 ((relex_Relex.calls kj6 (fun k_ => some k_ = (.slice Ao33 t476.length co33 : Value).ownBlock) _ _ t476 _ _ t471 t482 t485 t486 t487 _ ?side1 ?side2 ?side3 A18.out).mono ?_); (case side1 => exact Kd.R_V (Kd.R_tight rfl (Kd.R_apart' (Kd.R_apart' (HO478.out) (Kd.R_typed HO_6.out) (by decide)) (Kd.R_typed HO_9.out) (by decide)))); (case side2 => exact zE' (Kd.R_reads' HO_9.out).2.2); (case side3 => exact (Kd.R_reads' HO_9.out).2.1); rintro e w35 ⟨v483, rfl, ho0, hb⟩; refine ⟨_, rfl, ?_⟩; replace HO_6 := (zRb HO_6 hb); replace HO_9 := (zRb HO_9 hb); have HO484 := Aside0.mk (Kd.R_lower (Kd.R_new' (Kd.R_new' (Kd.R_mono (ok' := fun k_ => True) ho0 (fun _ hk_ => trivial)) (Kd.R_lt (zR HO_7))) (Kd.R_lt (zR HO478))) (below_size zb)); replace HO_7 := Aside0.mk (Kd.R_elder' (zR HO_7) (Kd.R_base ho0) hb); replace HO478 := Aside0.mk (Kd.R_elder' (zR HO478) (Kd.R_base ho0) hb); replace HB := (zB hb); (try clear hb); (try clear hb2); (try clear hk); (try clear hi); (try clear ho0); obtain ⟨Ao36, co36, eo36⟩ := Kd.R_slice HO484.out; subst eo36) | (go_at_call 18; (with_reducible refine (marginaliaref03_Same.calls kj6 _ _ t482 _ _ t467 false _ ?side1 ?side2 ?side3 ?side4 A21.out).mono ?_); (case side1 => exact zE' (Kd.R_reads' HO484.out).2.2); (case side2 => exact (Kd.R_reads' HO484.out).2.1); (case side3 => exact zE' (Kd.R_reads' HO_7.out).2.2); (case side4 => exact (Kd.R_reads' HO_7.out).2.1); rintro e w' ⟨rfl, ⟨nd, rfl⟩⟩))
       go_ret; exact ⟨zr, zb⟩
     ·rw [if_neg c20] at H; have c20b0 : (t487 == 0) = false := beq_eq_false_iff_ne.mpr c20; have c20b1 : (t487 != 0) = true := bne_iff_ne.mpr c20; obtain rfl := Option.some.inj H; obtain ⟨Ao37, co37, eo37⟩ := Kd.R_slice HO_7.out; subst eo37
      go_wp2_with (first | ((with_reducible refine zG 12 rfl ?_); refine zg 44 Try.func12 ((relex_Relex.calls kj6 (fun k_ => some k_ = (.slice Ao37 t467.length co37 : Value).ownBlock) _ _ t467 _ _ t464 t476 t479 t480 t481 _ ?side1 ?side2 ?side3 A17.out).mono ?_); (case side1 => exact Kd.R_V (Kd.R_tight rfl (Kd.R_apart' (Kd.R_apart' (HO_7.out) (Kd.R_typed HO_6.out) (by decide)) (Kd.R_typed HO_9.out) (by decide)))); (case side2 => exact zE' (Kd.R_reads' HO_6.out).2.2); (case side3 => exact (Kd.R_reads' HO_6.out).2.1); rintro e w38 ⟨v477, rfl, ho0, hb⟩; refine ⟨_, rfl, ?_⟩; replace HO_6 := (zRb HO_6 hb); replace HO_9 := (zRb HO_9 hb); have HO478 := Aside0.mk (Kd.R_lower (Kd.R_new' (Kd.R_mono (ok' := fun k_ => True) ho0 (fun _ hk_ => trivial)) (Kd.R_lt (zR HO_7))) (below_size zb)); replace HO_7 := Aside0.mk (Kd.R_elder' (zR HO_7) (Kd.R_base ho0) hb); replace HB := (zB hb); (try clear hb); (try clear hb2); (try clear hk); (try clear hi); (try clear ho0); obtain ⟨Ao39, co39, eo39⟩ := Kd.R_slice HO478.out; subst eo39; obtain ⟨Ao40, co40, eo40⟩ := Kd.R_slice HO_9.out; subst eo40) | ((with_reducible refine zG 12 rfl ?_); refine zg 52 Try.func12 ((relex_Relex.calls kj6 (fun k_ => some k_ = (.slice Ao39 t476.length co39 : Value).ownBlock) _ _ t476 _ _ t471 t482 t485 t486 t487 _ ?side1 ?side2 ?side3 A18.out).mono ?_); (case side1 => exact Kd.R_V (Kd.R_tight rfl (Kd.R_apart' (Kd.R_apart' (HO478.out) (Kd.R_typed HO_6.out) (by decide)) (Kd.R_typed HO_9.out) (by decide)))); (case side2 => exact zE' (Kd.R_reads' HO_9.out).2.2); (case side3 => exact (Kd.R_reads' HO_9.out).2.1); rintro e w41 ⟨v483, rfl, ho0, hb⟩; refine ⟨_, rfl, ?_⟩; replace HO_6 := (zRb HO_6 hb); replace HO_9 := (zRb HO_9 hb); have HO484 := Aside0.mk (Kd.R_lower (Kd.R_new' (Kd.R_new' (Kd.R_mono (ok' := fun k_ => True) ho0 (fun _ hk_ => trivial)) (Kd.R_lt (zR HO_7))) (Kd.R_lt (zR HO478))) (below_size zb)); replace HO_7 := Aside0.mk (Kd.R_elder' (zR HO_7) (Kd.R_base ho0) hb); replace HO478 := Aside0.mk (Kd.R_elder' (zR HO478) (Kd.R_base ho0) hb); replace HB := (zB hb); (try clear hb); (try clear hb2); (try clear hk); (try clear hi); (try clear ho0)))
      go_ret; exact ⟨zr, zb⟩
    ·rw [if_neg c19] at H; have c19b0 : (t481 == 0) = false := beq_eq_false_iff_ne.mpr c19; have c19b1 : (t481 != 0) = true := bne_iff_ne.mpr c19; obtain rfl := Option.some.inj H; obtain ⟨Ao42, co42, eo42⟩ := Kd.R_slice HO_7.out; subst eo42
     go_wp2_with (first | ((with_reducible refine zG 12 rfl ?_); refine zg 44 Try.func12 ((relex_Relex.calls kj6 (fun k_ => some k_ = (.slice Ao42 t467.length co42 : Value).ownBlock) _ _ t467 _ _ t464 t476 t479 t480 t481 _ ?side1 ?side2 ?side3 A17.out).mono ?_); (case side1 => exact Kd.R_V (Kd.R_tight rfl (Kd.R_apart' (Kd.R_apart' (HO_7.out) (Kd.R_typed HO_6.out) (by decide)) (Kd.R_typed HO_9.out) (by decide)))); (case side2 => exact zE' (Kd.R_reads' HO_6.out).2.2); (case side3 => exact (Kd.R_reads' HO_6.out).2.1); rintro e w43 ⟨v477, rfl, ho0, hb⟩; refine ⟨_, rfl, ?_⟩; replace HO_6 := (zRb HO_6 hb); replace HO_9 := (zRb HO_9 hb); have HO478 := Aside0.mk (Kd.R_lower (Kd.R_new' (Kd.R_mono (ok' := fun k_ => True) ho0 (fun _ hk_ => trivial)) (Kd.R_lt (zR HO_7))) (below_size zb)); replace HO_7 := Aside0.mk (Kd.R_elder' (zR HO_7) (Kd.R_base ho0) hb); replace HB := (zB hb); (try clear hb); (try clear hb2); (try clear hk); (try clear hi); (try clear ho0); obtain ⟨Ao44, co44, eo44⟩ := Kd.R_slice HO478.out; subst eo44; obtain ⟨Ao45, co45, eo45⟩ := Kd.R_slice HO_9.out; subst eo45) | ((with_reducible refine zG 12 rfl ?_); refine zg 52 Try.func12 ((relex_Relex.calls kj6 (fun k_ => some k_ = (.slice Ao44 t476.length co44 : Value).ownBlock) _ _ t476 _ _ t471 t482 t485 t486 t487 _ ?side1 ?side2 ?side3 A18.out).mono ?_); (case side1 => exact Kd.R_V (Kd.R_tight rfl (Kd.R_apart' (Kd.R_apart' (HO478.out) (Kd.R_typed HO_6.out) (by decide)) (Kd.R_typed HO_9.out) (by decide)))); (case side2 => exact zE' (Kd.R_reads' HO_9.out).2.2); (case side3 => exact (Kd.R_reads' HO_9.out).2.1); rintro e w46 ⟨v483, rfl, ho0, hb⟩; refine ⟨_, rfl, ?_⟩; replace HO_6 := (zRb HO_6 hb); replace HO_9 := (zRb HO_9 hb); have HO484 := Aside0.mk (Kd.R_lower (Kd.R_new' (Kd.R_new' (Kd.R_mono (ok' := fun k_ => True) ho0 (fun _ hk_ => trivial)) (Kd.R_lt (zR HO_7))) (Kd.R_lt (zR HO478))) (below_size zb)); replace HO_7 := Aside0.mk (Kd.R_elder' (zR HO_7) (Kd.R_base ho0) hb); replace HO478 := Aside0.mk (Kd.R_elder' (zR HO478) (Kd.R_base ho0) hb); replace HB := (zB hb); (try clear hb); (try clear hb2); (try clear hk); (try clear hi); (try clear ho0)))
     go_ret; exact ⟨zr, zb⟩

end Go.Proofs.Ytahcpappailjgaa.P

set_option linter.unusedVariables false
set_option linter.unusedSimpArgs false
namespace Go.Proofs.Ytahcpappailjgaa.P
open Go.RowKit Go.Proofs.YtahcpappailjgaaW.PrintWords Go.Proofs.YtahcpappailjgaaW.PrintLast Go.Proofs.YtahcpappailjgaaW.PrintMore
/-! ### rounds -/
theorem Ev.shift {α : Type} {g : Nat → Option α} {r : α} (h : Ev (fun k => g (k + 1)) r) : Ev g r := Ev.step (fun _ => rfl) h
theorem Ev.pos {α : Type} {c : Prop} [Decidable c] {f g : Nat → Option α} {r : α} (h : c) (k : Ev f r) : Ev (fun n => if c then f n else g n) r := by
 simp only [if_pos h]; exact k
theorem Ev.neg {α : Type} {c : Prop} [Decidable c] {f g : Nat → Option α} {r : α} (h : ¬ c) (k : Ev g r) : Ev (fun n => if c then f n else g n) r := by
 simp only [if_neg h]; exact k
theorem Ev.bind1 {α β : Type} {o : Option α} {f : Nat → α → Option β} {a : α} {r : β} (h : o = some a) (k : Ev (fun n => f n a) r) : Ev (fun n => o.bind (f n)) r := by
 rw [h]; exact k
theorem w64 {n : Int} (h : -9223372036854775808 ≤ n) (h' : n ≤ 9223372036854775807) : wrap64 n = n := by unfold wrap64; omega
abbrev Ed := S39
theorem rd_at {l : List Ed} {i : Nat} {e : Ed} {r : List Ed} (h : l.drop i = e :: r) : rd_T39 l (i : Int) = e := by
 have h1 : l[i]? = some e := by
  have := congrArg (fun x : List Ed => x[0]?) h
  simpa [List.getElem?_drop] using this
 simp [rd_T39, List.getD_eq_getElem?_getD, h1]
theorem lt_of_drop {α : Type} {l : List α} {i : Nat} {e : α} {r : List α} (h : l.drop i = e :: r) : i < l.length := by
 have := congrArg List.length h
 simp at this
 omega
theorem drop_next {α : Type} {l : List α} {i : Nat} {e : α} {r : List α} (h : l.drop i = e :: r) : l.drop (i + 1) = r := by
 have := congrArg (List.drop 1) h
 simpa [List.drop_drop, Nat.add_comm] using this
theorem le_of_nil {α : Type} {l : List α} {i : Nat} (h : l.drop i = []) : l.length ≤ i := by
 have := congrArg List.length h
 simp at this
 omega

/-! ### Short, Cut -/
theorem mn_nat (a b : Nat) : mn (a : Int) (b : Int) = ((min a b : Nat) : Int) := by unfold mn; (repeat' split) <;> omega
def short (s : ByteArray) : ByteArray := s.extract 0 (min s.size 20001)
theorem Short_eq (s : ByteArray) : marginaliaref01_Short.f s = some (short s) := by
 have h : mn (s.size : Int) 20001 = ((min s.size 20001 : Nat) : Int) := mn_nat s.size 20001; unfold marginaliaref01_Short.f; rw [h, if_pos (by omega), if_pos (by omega)]
 simp [short]
theorem short_size (s : ByteArray) : (short s).size ≤ 20001 := by
 simp only [short, ByteArray.size_extract]
 omega
/-- An edit whose numbers are ints. -/
def Ok (e : Ed) : Prop := (-9223372036854775808 ≤ e.f0 ∧ e.f0 ≤ 9223372036854775807) ∧ (-9223372036854775808 ≤ e.f1 ∧ e.f1 ≤ 9223372036854775807)
def cutE (n : Nat) (e : Ed) : Ed := ⟨e.f0, e.f1, e.f2.extract 0 (min e.f2.size n)⟩
def cut (n : Nat) (l : List Ed) : List Ed := (l.take 102).map (cutE n)
theorem Cut_loop (l : List Ed) (n : Nat) (hl : l.length ≤ 9223372036854775807) : ∀ (d i : Nat) (acc : List Ed), 102 - i = d → i ≤ 102 → acc.length ≤ 102 → acc.length = i →
  Ev (fun k => marginaliaref01_Cut.l0 k l (n : Int) acc (i : Int)) (acc ++ ((l.drop i).take (102 - i)).map (cutE n)) := by
 intro d
 induction d with
 | zero =>
  intro i acc hd hi ha hai; refine Ev.shift ?_; simp only [marginaliaref01_Cut.l0]; rw [show 102 - i = 0 by omega]; by_cases hlt : (i : Int) < (l.length : Int)
  ·refine Ev.pos hlt (Ev.neg (by omega) ?_)
   simpa using Ev.now acc
  ·refine Ev.neg hlt ?_
   simpa using Ev.now acc
 | succ d ih =>
  intro i acc hd hi ha hai; refine Ev.shift ?_; simp only [marginaliaref01_Cut.l0]
  cases hdr : l.drop i with
  | nil =>
   have := le_of_nil hdr; refine Ev.neg (by omega) ?_
   simpa using Ev.now acc
  | cons e r =>
   have hlt := lt_of_drop hdr; rw [rd_at hdr, mn_nat]; refine Ev.pos (by omega) (Ev.pos (by omega) (Ev.pos (by omega) (Ev.pos (by omega) (Ev.pos (by omega) (Ev.pos (by omega) ?_))))); rw [w64 (by omega) (by omega)]; have h := ih (i + 1) (acc ++ [cutE n e]) (by omega) (by omega) (by simp; omega) (by simp; omega); rw [drop_next hdr] at h; rw [show 102 - i = (102 - (i + 1)) + 1 by omega]
   simpa [cutE] using h
theorem Cut_ev (l : List Ed) (n : Nat) (hl : l.length ≤ 9223372036854775807) : Ev (fun k => marginaliaref01_Cut.f k l (n : Int)) (cut n l) := by
 have h := Cut_loop l n hl 102 0 [] rfl (by omega) (by simp) rfl
 simpa [cut, marginaliaref01_Cut.f] using h
theorem cut_length (n : Nat) (l : List Ed) : (cut n l).length ≤ 102 := by simp [cut]; omega
/-- What Cut leaves. -/
def Fine (n : Nat) (l : List Ed) : Prop := l.length ≤ 102 ∧ ∀ e ∈ l, Ok e ∧ e.f2.size ≤ n
theorem cut_fine {n : Nat} {l : List Ed} (h : ∀ e ∈ l, ok39 e) : Fine n (cut n l) := by
 refine ⟨cut_length n l, fun e he => ?_⟩; obtain ⟨x, hx, rfl⟩ := List.mem_map.1 he; have := h x (List.mem_of_mem_take hx); refine ⟨⟨this.1, this.2.1⟩, ?_⟩; simp only [cutE, ByteArray.size_extract]
 omega

/-! ### Check -/
def sp (m : Int) : Int → List Ed → Bool
 | _, [] => true
 | p, e :: r => decide (p ≤ e.f0) && (decide (e.f0 ≤ e.f1) && (decide (e.f1 ≤ m) && sp m e.f1 r))
theorem sp_cons {m p : Int} {e : Ed} {r : List Ed} (h : sp m p (e :: r) = true) : p ≤ e.f0 ∧ e.f0 ≤ e.f1 ∧ e.f1 ≤ m ∧ sp m e.f1 r = true := by
 simpa [sp] using h
def spanSum (l : List Ed) : Int := (l.map fun e => e.f1 - e.f0).sum
def newSum (l : List Ed) : Nat := (l.map fun e => e.f2.size).sum
theorem spanSum_cons (e : Ed) (r : List Ed) : spanSum (e :: r) = (e.f1 - e.f0) + spanSum r := by simp [spanSum]
theorem newSum_cons (e : Ed) (r : List Ed) : newSum (e :: r) = e.f2.size + newSum r := by simp [newSum]
theorem span_le {m : Int} : ∀ {p : Int} {l : List Ed}, sp m p l = true → p ≤ m → 0 ≤ spanSum l ∧ spanSum l ≤ m - p
 | p, [], _, hp => by simp [spanSum]; omega
 | p, e :: r, h, hp => by
  obtain ⟨h1, h2, h3, h4⟩ := sp_cons h; have := span_le h4 h3; rw [spanSum_cons]
  omega
theorem newSum_le {n : Nat} {l : List Ed} (h : ∀ e ∈ l, Ok e ∧ e.f2.size ≤ n) : newSum l ≤ l.length * n := by
 induction l with
 | nil => simp [newSum]
 | cons e r ih =>
  have h1 := (h e (by simp)).2; have h2 := ih (fun x hx => h x (by simp [hx])); rw [newSum_cons, List.length_cons, Nat.add_mul, Nat.one_mul]
  omega
/-- Edits that are few, with News that are not long together. -/
def Fit (l : List Ed) : Prop := l.length ≤ 102 ∧ newSum l ≤ 1000000
theorem Fine.fit {n : Nat} {l : List Ed} (hf : Fine n l) (hn : n ≤ 9000) : Fit l := by
 have h1 := newSum_le hf.2; have h2 : l.length * n ≤ 102 * 9000 := Nat.mul_le_mul hf.1 hn; exact ⟨hf.1, by omega⟩
/-- The error of edits of a text of so many bytes. -/
def chk (n : Int) (l : List Ed) : Int :=
 if n > 20000 then 3 else if (l.length : Int) > 100 then 3 else if sp n 0 l = true then (if n - spanSum l + newSum l > 20000 then 7 else 0) else 2
theorem spans_loop (l : List Ed) (m : Int) (hl : l.length ≤ 9223372036854775807) : ∀ (r : List Ed) (i : Nat) (p : Int), l.drop i = r →
  Ev (fun k => rope_spans.l0 k m p l (l.length : Int) (i : Int)) (if sp m p r = true then 0 else 2) := by
 intro r
 induction r with
 | nil =>
  intro i p hd; have := le_of_nil hd; refine Ev.shift ?_; simp only [rope_spans.l0]; refine Ev.neg (by omega) ?_
  simpa [sp] using Ev.now (0 : Int)
 | cons e r ih =>
  intro i p hd; have hlt := lt_of_drop hd; refine Ev.shift ?_; simp only [rope_spans.l0]; rw [rd_at hd]; refine Ev.pos (by omega) (Ev.pos (by omega) (Ev.pos (by omega) ?_)); by_cases h1 : e.f0 < p
  ·refine Ev.pos h1 ?_; rw [if_neg (by simp [sp]; intro h; omega)]; exact Ev.now _
  refine Ev.neg h1 ?_; by_cases h2 : e.f1 < e.f0
  ·refine Ev.pos h2 ?_; rw [if_neg (by simp [sp]; intro _ h; omega)]; exact Ev.now _
  refine Ev.neg h2 ?_; by_cases h3 : e.f1 > m
  ·refine Ev.pos h3 ?_; rw [if_neg (by simp [sp]; intro _ _ h; omega)]; exact Ev.now _
  refine Ev.neg h3 ?_; rw [w64 (by omega) (by omega)]; have h := ih (i + 1) e.f1 (drop_next hd)
  have e1 : sp m p (e :: r) = sp m e.f1 r := by
   simp only [sp]; rw [decide_eq_true (by omega), decide_eq_true (by omega), decide_eq_true (by omega)]; rfl
  rw [e1]
  simpa using h
theorem spans_ev (l : List Ed) (m : Int) (hl : l.length ≤ 9223372036854775807) : Ev (fun k => rope_spans.f k m l) (if (l.length : Int) > 100 then 3 else if sp m 0 l = true then 0 else 2) := by
 unfold rope_spans.f; by_cases h : (l.length : Int) > 100
 ·rw [if_pos h]; exact Ev.pos h (Ev.now _)
 ·rw [if_neg h]; exact Ev.neg h (spans_loop l m hl l 0 0 rfl)
theorem check_l1 (l : List Ed) (hl : l.length ≤ 9223372036854775807) (hn : newSum l ≤ 1000000) : ∀ (r : List Ed) (i : Nat) (x : Int), l.drop i = r → 0 ≤ x → x ≤ 20000 → newSum r ≤ 1000000 →
  Ev (fun k => rope_check.l1 k x l (l.length : Int) (i : Int)) (if x + newSum r > 20000 then 7 else 0) := by
 intro r
 induction r with
 | nil =>
  intro i x hd hx hx2 _; have := le_of_nil hd; refine Ev.shift ?_; simp only [rope_check.l1]; refine Ev.neg (by omega) ?_; rw [if_neg (by simp [newSum]; omega)]; exact Ev.now _
 | cons e r ih =>
  intro i x hd hx hx2 hns; have hlt := lt_of_drop hd; rw [newSum_cons] at hns ⊢; refine Ev.shift ?_; simp only [rope_check.l1]; rw [rd_at hd]; refine Ev.pos (by omega) (Ev.pos (by omega) (Ev.pos (by omega) ?_)); rw [w64 (n := 20000 - x) (by omega) (by omega)]; by_cases h1 : (e.f2.size : Int) > 20000 - x
  ·rw [if_pos (by omega)]; exact Ev.pos h1 (Ev.now _)
  ·refine Ev.neg h1 ?_; rw [w64 (n := x + _) (by omega) (by omega), w64 (by omega) (by omega)]; have h := ih (i + 1) (x + e.f2.size) (drop_next hd) (by omega) (by omega) (by omega); rw [show x + (e.f2.size : Int) + (newSum r : Int) = x + ((e.f2.size + newSum r : Nat) : Int) by omega] at h
   simpa using h
theorem check_l0 (l : List Ed) (m : Int) (hm : m ≤ 20000) (hl : l.length ≤ 9223372036854775807) (hn : newSum l ≤ 1000000) : ∀ (r : List Ed) (i : Nat) (x p : Int), l.drop i = r → sp m p r = true → 0 ≤ p → p ≤ m → spanSum r ≤ x → x ≤ 20000 →
  Ev (fun k => rope_check.l0 k l x l (l.length : Int) (i : Int)) (if x - spanSum r + newSum l > 20000 then 7 else 0) := by
 intro r
 induction r with
 | nil =>
  intro i x p hd hs hp hp2 hx hx2; have := le_of_nil hd; refine Ev.shift ?_; simp only [rope_check.l0]; refine Ev.neg (by omega) ?_
  have hz : spanSum ([] : List Ed) = 0 := (by simp [spanSum])
  rw [hz] at hx ⊢; have h := check_l1 l hl hn l 0 x rfl hx hx2 hn
  simpa using h
 | cons e r ih =>
  intro i x p hd hs hp hp2 hx hx2; have hlt := lt_of_drop hd; obtain ⟨h1, h2, h3, h4⟩ := sp_cons hs; have h5 := span_le h4 h3; rw [spanSum_cons] at hx ⊢; refine Ev.shift ?_; simp only [rope_check.l0]; rw [rd_at hd]; refine Ev.pos (by omega) (Ev.pos (by omega) (Ev.pos (by omega) ?_)); rw [w64 (n := e.f0 - e.f1) (by omega) (by omega), w64 (n := x + _) (by omega) (by omega), w64 (by omega) (by omega)]; have h := ih (i + 1) (x + (e.f0 - e.f1)) e.f1 (drop_next hd) h4 (by omega) h3 (by omega) (by omega); rw [show x + (e.f0 - e.f1) - spanSum r = x - (e.f1 - e.f0 + spanSum r) by omega] at h
  simpa using h
theorem check_ev (s : ByteArray) (l : List Ed) (hs : s.size ≤ 9223372036854775807) (hf : Fit l) : Ev (fun k => rope_Check.f k s l) (chk s.size l) := by
 have hl : l.length ≤ 9223372036854775807 := (by have := hf.1; omega)
 have hns : newSum l ≤ 1000000 := hf.2; unfold rope_Check.f chk; by_cases h1 : (s.size : Int) > 20000
 ·rw [if_pos h1]; exact Ev.pos h1 (Ev.now _)
 rw [if_neg h1]; refine Ev.neg h1 (Ev.bind (a := _) ?_ (Ev.now _)); unfold rope_check.f; refine Ev.bind (spans_ev l s.size hl) ?_; by_cases h2 : (l.length : Int) > 100
 ·simp only [if_pos h2]; exact Ev.neg (by decide) (Ev.now _)
 simp only [if_neg h2]; by_cases h3 : sp s.size 0 l = true
 ·simp only [if_pos h3]; have h4 := span_le h3 (by omega); exact Ev.pos (by simp) (check_l0 l s.size (by omega) hl hns l 0 s.size 0 rfl h3 (by omega) (by omega) (by omega) (by omega))
 ·simp only [if_neg h3]; exact Ev.neg (by decide) (Ev.now _)
/-- What a check that passed says. -/
theorem chk_ok {n : Int} {l : List Ed} (h : chk n l = 0) : n ≤ 20000 ∧ l.length ≤ 100 ∧ sp n 0 l = true ∧ n - spanSum l + newSum l ≤ 20000 := by
 unfold chk at h
 split at h
 ·cases h
 split at h
 ·cases h
 split at h
 ·split at h
  ·cases h
  ·exact ⟨by omega, by omega, by assumption, by omega⟩
 ·cases h
def grow (e : Ed) : Int := (e.f2.size : Int) - (e.f1 - e.f0)
/-! ### Apply -/
def ba (l : List UInt8) : ByteArray := ⟨l.toArray⟩
def cutS (s : ByteArray) (a b : Int) : List UInt8 := (s.extract a.toNat b.toNat).data.toList
theorem ba_size (l : List UInt8) : (ba l).size = l.length := by simp [ba, ByteArray.size]
theorem ba_list (l : List UInt8) : (ba l).data.toList = l := by simp [ba]
theorem list_ba (s : ByteArray) : ba s.data.toList = s := by
 apply ByteArray.ext
 simp [ba]
theorem cutS_eq (s : ByteArray) (a b : Int) : cutS s a b = (s.data.toList.take b.toNat).drop a.toNat := by
 rw [cutS, ByteArray.data_extract, Array.toList_extract, List.extract_eq_take_drop, List.drop_take]
theorem cutS_length (s : ByteArray) (a b : Int) : (cutS s a b).length = min b.toNat s.size - a.toNat := by
 rw [cutS, Ut.size_data, ByteArray.size_extract]
def app (s : ByteArray) : Int → List Ed → List UInt8
 | p, [] => cutS s p s.size
 | p, e :: r => cutS s p e.f0 ++ e.f2.data.toList ++ app s e.f1 r
theorem app_length (s : ByteArray) : ∀ (l : List Ed) (p : Int), sp s.size p l = true → 0 ≤ p → p ≤ s.size → ((app s p l).length : Int) = s.size - p - spanSum l + newSum l
 | [], p, _, h0, h1 => by
  simp only [app, cutS_length, spanSum, newSum, List.map_nil, List.sum_nil]
  omega
 | e :: r, p, h, h0, h1 => by
  obtain ⟨h2, h3, h4, h5⟩ := sp_cons h; have := app_length s r e.f1 h5 (by omega) h4; rw [spanSum_cons, newSum_cons]; simp only [app, List.length_append, cutS_length, Ut.size_data]
  omega
theorem go_eq (s : ByteArray) : ∀ (l : List Ed) (p : Int) (acc : List UInt8), sp s.size p l = true → 0 ≤ p → p ≤ s.size → acc.length + (app s p l).length ≤ 140737488355328 → rope_Apply.go s l p acc = some (acc ++ app s p l)
 | [], p, acc, _, h0, h1, hb => by
  have e : (s.extract p.toNat s.size).data.toList = app s p [] := (by simp [app, cutS])
  have e2 : (s.extract p.toNat s.size).size = (app s p []).length := (by rw [← e, Ut.size_data])
  unfold rope_Apply.go; rw [if_pos h0, if_pos h1, e2, if_pos hb, e]
 | e :: r, p, acc, h, h0, h1, hb => by
  obtain ⟨h2, h3, h4, h5⟩ := sp_cons h; have e1 : (s.extract p.toNat e.f0.toNat).data.toList = cutS s p e.f0 := rfl
  have e2 : (s.extract p.toNat e.f0.toNat).size = (cutS s p e.f0).length := (by rw [← e1, Ut.size_data])
  simp only [app, List.length_append, Ut.size_data] at hb; unfold rope_Apply.go; rw [if_pos h0, if_pos h2, if_pos (by omega), e2, if_pos (by omega), e1, go_eq s r e.f1 _ h5 (by omega) h4 (by simp only [List.length_append, Ut.size_data]; omega)]
  simp [app]
theorem apply_ev (s : ByteArray) (l : List Ed) (hs : s.size ≤ 9223372036854775807) (hf : Fit l) : Ev (fun k => rope_Apply.f k s l) (if chk s.size l = 0 then ba (app s 0 l) else ⟨#[]⟩, chk s.size l) := by
 unfold rope_Apply.f; refine Ev.bind (check_ev s l hs hf) ?_; by_cases h : chk s.size l = 0
 ·obtain ⟨h1, h2, h3, h4⟩ := chk_ok h; have h5 := app_length s l 0 h3 (by omega) (by omega); rw [go_eq s l 0 [] h3 (by omega) (by omega) (by simp only [List.length_nil]; omega)]; simp only [if_pos h, h]; exact Ev.now _
 ·simp only [if_neg h]; exact Ev.now _
/-! ### Invert -/
def inv (s : ByteArray) : Int → List Ed → List Ed
 | _, [] => []
 | b, e :: r => ⟨e.f0 + b, e.f0 + b + e.f2.size, s.extract e.f0.toNat e.f1.toNat⟩ :: inv s (b + grow e) r
theorem inv_length (s : ByteArray) : ∀ (l : List Ed) (b : Int), (inv s b l).length = l.length
 | [], _ => rfl
 | e :: r, b => by simp [inv, inv_length s r]
theorem invert_loop (s : ByteArray) (l : List Ed) (hs : s.size ≤ 20000) (hl : l.length ≤ 102) : ∀ (r : List Ed) (i : Nat) (p b : Int) (acc : List Ed), l.drop i = r → sp s.size p r = true → 0 ≤ p → p ≤ s.size → -p ≤ b → b + newSum r ≤ 2000000 → acc.length ≤ i →
  Ev (fun k => rope_Invert.l0 k s acc b l (l.length : Int) (i : Int)) (acc ++ inv s b r, 0) := by
 intro r
 induction r with
 | nil =>
  intro i p b acc hd hsp h0 h1 hb hb2 ha; have := le_of_nil hd; refine Ev.shift ?_; simp only [rope_Invert.l0, inv, List.append_nil]; exact Ev.neg (by omega) (Ev.now _)
 | cons e r ih =>
  intro i p b acc hd hsp h0 h1 hb hb2 ha; have hlt := lt_of_drop hd; obtain ⟨h2, h3, h4, h5⟩ := sp_cons hsp; rw [newSum_cons] at hb2; refine Ev.shift ?_; simp only [rope_Invert.l0]; rw [rd_at hd]; refine Ev.pos (by omega) (Ev.pos (by omega) (Ev.pos (by omega) (Ev.pos (by omega) (Ev.pos (by omega) (Ev.pos (by omega) (Ev.pos (by omega) ?_)))))); rw [w64 (n := e.f1 - e.f0) (by omega) (by omega), w64 (n := (e.f2.size : Int) - _) (by omega) (by omega), w64 (n := b + _) (by omega) (by omega), w64 (n := (i : Int) + 1) (by omega) (by omega), w64 (n := e.f0 + b) (by omega) (by omega), w64 (by omega) (by omega)]; have h := ih (i + 1) e.f1 (b + grow e) (acc ++ [⟨e.f0 + b, e.f0 + b + e.f2.size, s.extract e.f0.toNat e.f1.toNat⟩]) (drop_next hd) h5 (by omega) h4 (by unfold grow; omega) (by unfold grow; omega) (by simp; omega)
  simpa [grow, inv] using h
theorem invert_ev (s : ByteArray) (l : List Ed) (hs : s.size ≤ 9223372036854775807) (hf : Fit l) : Ev (fun k => rope_Invert.f k s l) (if chk s.size l = 0 then inv s 0 l else [], chk s.size l) := by
 unfold rope_Invert.f; refine Ev.bind (check_ev s l hs hf) ?_; by_cases h : chk s.size l = 0
 ·obtain ⟨h1, h2, h3, h4⟩ := chk_ok h; have h5 := span_le h3 (by omega); simp only [if_pos h, h]; exact Ev.pos (by simp) (invert_loop s l (by omega) hf.1 l 0 0 0 [] rfl h3 (by omega) (by omega) (by omega) (by omega) (by simp))
 ·simp only [if_neg h]; exact Ev.now _
end Go.Proofs.Ytahcpappailjgaa.P

set_option linter.unusedVariables false
set_option linter.unusedSimpArgs false
namespace Go.Proofs.Ytahcpappailjgaa.P
open Go.RowKit Go.Proofs.YtahcpappailjgaaW.PrintWords Go.Proofs.YtahcpappailjgaaW.PrintLast Go.Proofs.YtahcpappailjgaaW.PrintMore
/-! ### bytes -/
abbrev Bs := List UInt8
theorem bt_drop {s : ByteArray} {i : Nat} {c : UInt8} {r : Bs} (h : s.data.toList.drop i = c :: r) : i < s.size ∧ bt s (i : Int) = (c.toNat : Int) := by
 have h0 : i < s.size := by
  have := congrArg List.length h; simp only [List.length_drop, List.length_cons] at this; rw [Ut.size_data] at this
  omega
 refine ⟨h0, ?_⟩; rw [← bt_at s (i : Int) h0]
 have h1 : s.data.toList[i]? = some c := by
  have := congrArg (fun x : Bs => x[0]?) h
  simpa [List.getElem?_drop] using this
 have h2 : s.data[i]? = some c := (by rw [← Array.getElem?_toList]; exact h1)
 have h3 : s.data[i]? = some (s.data[i]'h0) := Array.getElem?_eq_getElem h0; rw [h3] at h2; injection h2 with h2
 show ((s.data[i]'h0).toNat : Int) = _
 rw [h2]
theorem nil_drop {s : ByteArray} {i : Nat} (h : s.data.toList.drop i = []) : s.size ≤ i := by
 have := le_of_nil h; rw [Ut.size_data] at this; exact this
theorem ext_list (s : ByteArray) (a b : Nat) : (s.extract a b).data.toList = (s.data.toList.drop a).take (b - a) := by
 rw [ByteArray.data_extract, Array.toList_extract, List.extract_eq_take_drop]
theorem drop_cons_of_lt {s : ByteArray} {i : Nat} (h : i < s.size) : ∃ c r, s.data.toList.drop i = c :: r := by
 cases e : s.data.toList.drop i with
 | nil => have := nil_drop e; omega
 | cons c r => exact ⟨c, r, rfl⟩
def bk (c : UInt8) : Bool := c == 32 || c == 9 || c == 10 || c == 13
def lt (c : UInt8) : Bool := (decide (97 ≤ c.toNat) && decide (c.toNat ≤ 122)) || (decide (65 ≤ c.toNat) && decide (c.toNat ≤ 90)) || c == 95
def dg (c : UInt8) : Bool := decide (48 ≤ c.toNat) && decide (c.toNat ≤ 57)
def ld (c : UInt8) : Bool := lt c || dg c
theorem byte_all {P : UInt8 → Prop} [DecidablePred P] (h : ∀ n : Fin 256, P (UInt8.ofNat n.val)) (c : UInt8) : P c := by
 have := h ⟨c.toNat, UInt8.toNat_lt c⟩
 simpa using this
theorem iblank (c : UInt8) : token_isBlank.f (c.toNat : Int) = some (bk c) := byte_all (P := fun c => token_isBlank.f (c.toNat : Int) = some (bk c)) (by decide +kernel) c
theorem iletter (c : UInt8) : token_isLetter.f (c.toNat : Int) = some (lt c) := byte_all (P := fun c => token_isLetter.f (c.toNat : Int) = some (lt c)) (by decide +kernel) c
theorem idigit (c : UInt8) : token_isDigit.f (c.toNat : Int) = some (dg c) := byte_all (P := fun c => token_isDigit.f (c.toNat : Int) = some (dg c)) (by decide +kernel) c
theorem iletdig (c : UInt8) : token_good.letdig (c.toNat : Int) = some (ld c) := by
 unfold token_good.letdig ld; rw [iletter]
 show (if lt c = true then some true else token_isDigit.f (c.toNat : Int)) = _
 rw [idigit]
 cases lt c <;> rfl
/-- How many bytes at the beginning are of a sort. -/
def rn (p : UInt8 → Bool) : Bs → Nat
 | [] => 0
 | c :: r => if p c = true then rn p r + 1 else 0
theorem rn_le (p : UInt8 → Bool) : ∀ l, rn p l ≤ l.length
 | [] => Nat.le_refl _
 | c :: r => by
  rw [rn]
  split
  ·have := rn_le p r; simp only [List.length_cons]; omega
  ·omega
theorem irun {q : Int → Option Bool} {p : UInt8 → Bool} (h : ∀ c : UInt8, q (c.toNat : Int) = some (p c)) : ∀ l : Bs, token_good.run q l = some (rn p l)
 | [] => rfl
 | c :: r => by
  rw [token_good.run, h c, rn]
  show (if p c = true then (token_good.run q r).map (· + 1) else some 0) = _
  split
  ·rw [irun h r]; rfl
  ·rfl
def nl (c : UInt8) : Bool := c != 10
theorem index_rn (l : Bs) : (Lib.indexByte l 10 = -1 ∧ rn nl l = l.length) ∨ Lib.indexByte l 10 = (rn nl l : Int) := by
 induction l with
 | nil => exact .inl ⟨rfl, rfl⟩
 | cons c r ih =>
  rw [Lib.indexByte, rn]; by_cases hc : c = 10
  ·subst hc
   right
   simp [nl]
  ·have h1 : (c == 10) = false := beq_eq_false_iff_ne.2 hc
   have h2 : nl c = true := (by simp [nl, hc])
   rw [if_neg (by rw [h1]; decide), if_pos h2]
   rcases ih with ⟨e1, e2⟩ | e
   ·rw [e1]
    left
    exact ⟨by simp, by simp [e2]⟩
   ·right
    rw [e]; have : ((rn nl r : Int) == -1) = false := beq_eq_false_iff_ne.2 (by omega); rw [this]
    simp
theorem iline (s : ByteArray) : token_line.f s = some (rn nl s.data.toList : Int) := by
 unfold token_line.f strings_IndexByte.f
 show (if Lib.indexByte s.data.toList 10 ≥ 0 then _ else _) = _
 rcases index_rn s.data.toList with ⟨e1, e2⟩ | e
 ·rw [e1, if_neg (by decide), e2, Ut.size_data]
 ·have e' : Lib.indexByte s.data.toList (Int.toNat 10).toUInt8 = (rn nl s.data.toList : Int) := e; rw [e, if_pos (by omega), e']
/-! ### words and signs -/
def ws : List Bs := [[100, 101, 102], [101, 108, 115, 101], [102, 97, 108, 115, 101], [102, 110], [105, 102], [105, 109, 112, 111, 114, 116], [105, 110], [108, 101, 116], [109, 97, 116, 99, 104], [116, 104, 101, 110], [116, 114, 117, 101], [116, 121, 112, 101]]
def sg : List Bs := [[33], [38, 38], [40], [41], [42], [43], [44], [45], [45, 62], [46], [58], [59], [60], [61], [61, 61], [61, 62], [91], [93], [123], [124], [124, 124], [125]]
def chain (x : Bs) : List Bs → Option Bool
 | [] => some false
 | y :: r => if x = y then some true else chain x r
theorem chain_eq (x : Bs) : ∀ l, chain x l = some (decide (x ∈ l))
 | [] => by simp [chain]
 | y :: r => by
  rw [chain, chain_eq x r]; by_cases h : x = y
  ·simp [h]
  ·simp [h]
theorem iword (s : ByteArray) : token_isWord.f s = some (decide (s.data.toList ∈ ws)) := by
 rw [← chain_eq, ← Lib.toList_data]; rfl
theorem isign (s : ByteArray) : token_isSign.f s = some (decide (s.data.toList ∈ sg)) := by
 rw [← chain_eq, ← Lib.toList_data]; rfl
/-- The bytes of the sign at the beginning. -/
def sn (l : Bs) : Nat := if 2 ≤ l.length ∧ l.take 2 ∈ sg then 2 else if l.take 1 ∈ sg then 1 else 0
theorem isn (s : ByteArray) (h0 : 0 < s.size) (hz : s.size ≤ 1000000000) : Ev (fun k => token_sign.f k s) (sn s.data.toList : Int) := by
 have hl := Ut.size_data s; have e2 : (s.extract 0 2).data.toList = s.data.toList.take 2 := ext_list s 0 2; have e1 : (s.extract 0 1).data.toList = s.data.toList.take 1 := ext_list s 0 1
 have one : Ev (fun k => token_sign.l0 k s 1) ((if s.data.toList.take 1 ∈ sg then 1 else 0 : Nat) : Int) := by
  refine Ev.shift ?_; simp only [token_sign.l0]; refine Ev.pos (by decide) (Ev.pos (by decide) (Ev.pos (by omega) ?_)); refine Ev.bind1 (isign _) ?_; rw [show ((1 : Int)).toNat = 1 from rfl, e1]; by_cases h : s.data.toList.take 1 ∈ sg
  ·rw [if_pos h]; exact Ev.pos (decide_eq_true h) (Ev.now _)
  ·rw [if_neg h]; refine Ev.neg (by rw [decide_eq_false h]; decide) (Ev.shift ?_); simp only [token_sign.l0]; rw [w64 (n := (1 : Int) - 1) (by omega) (by omega)]; exact Ev.neg (by decide) (Ev.now _)
 unfold token_sign.f sn; by_cases h2 : 2 ≤ s.size
 ·rw [show mn 2 (s.size : Int) = 2 by unfold mn; split <;> omega]; refine Ev.shift ?_; simp only [token_sign.l0]; refine Ev.pos (by decide) (Ev.pos (by decide) (Ev.pos (by omega) ?_)); refine Ev.bind1 (isign _) ?_; rw [show ((2 : Int)).toNat = 2 from rfl, e2]; by_cases h : s.data.toList.take 2 ∈ sg
  ·rw [if_pos ⟨by omega, h⟩]; exact Ev.pos (decide_eq_true h) (Ev.now _)
  ·rw [if_neg (fun x => h x.2)]; rw [w64 (n := (2 : Int) - 1) (by omega) (by omega)]; exact Ev.neg (by rw [decide_eq_false h]; decide) one
 ·rw [show mn 2 (s.size : Int) = 1 by unfold mn; split <;> omega, if_neg (fun x => by omega)]; exact one
/-! ### quotes -/
/-- The bytes up to the closing quote. -/
def qt : Bs → Option Nat
 | [] => none
 | c :: r => if c = 34 then some 1 else if c = 10 then none else if c = 92 then (match r with | [] => none | d :: r' => if d = 110 ∨ d = 34 ∨ d = 92 then (qt r').map (· + 2) else none) else (qt r).map (· + 1)
def qe (i : Nat) : Option Nat → Int
 | none => 0
 | some n => ((i + n : Nat) : Int)
theorem qe_map (i j : Nat) (x : Option Nat) : qe i (x.map (· + j)) = qe (i + j) x := by
 cases x with
 | none => rfl
 | some n => show ((i + (n + j) : Nat) : Int) = ((i + j + n : Nat) : Int); omega
theorem qt_pos : ∀ (m : Nat) (l : Bs), l.length ≤ m → ∀ n, qt l = some n → 0 < n ∧ n ≤ l.length := by
 intro m
 induction m with
 | zero =>
  intro l hl n h; obtain rfl : l = [] := List.eq_nil_of_length_eq_zero (by omega)
  simp [qt] at h
 | succ m ih =>
  intro l hl n h
  cases l with
  | nil => simp [qt] at h
  | cons c r =>
   rw [qt.eq_def] at h; simp only at h; simp only [List.length_cons] at hl ⊢
   split at h
   ·injection h with h; omega
   ·split at h
    ·cases h
    ·split at h
     ·cases r with
      | nil => cases h
      | cons d r' =>
       simp only at h
       split at h
       ·cases e : qt r' with
        | none => rw [e] at h; cases h
        | some x =>
         rw [e, Option.map_some] at h; injection h with h; have h : x + 2 = n := h; have := ih r' (by simp only [List.length_cons] at hl; omega) x e; simp only [List.length_cons]
         omega
       ·cases h
     ·cases e : qt r with
      | none => rw [e] at h; cases h
      | some x =>
       rw [e, Option.map_some] at h; injection h with h; have h : x + 1 = n := h; have := ih r (by omega) x e
       omega
theorem byte_int (c : UInt8) (n : Nat) (hn : n < 256) : ((c.toNat : Int) = (n : Int)) ↔ c = UInt8.ofNat n := by
 constructor
 ·intro h
  have h : c.toNat = n := (by exact_mod_cast h)
  rw [← h]
  simp
 ·intro h; rw [h, UInt8.toNat_ofNat_of_lt' hn]
theorem esc (c : UInt8) : Lib.indexByte [110, 34, 92] ((c.toNat : Int)).toNat.toUInt8 < 0 ↔ ¬ (c = 110 ∨ c = 34 ∨ c = 92) :=
 byte_all (P := fun c => Lib.indexByte [110, 34, 92] ((c.toNat : Int)).toNat.toUInt8 < 0 ↔ ¬ (c = 110 ∨ c = 34 ∨ c = 92)) (by decide +kernel) c
theorem iqt (s : ByteArray) (hz : s.size ≤ 1000000000) : ∀ (m : Nat) (l : Bs) (i : Nat), l.length ≤ m → s.data.toList.drop i = l → Ev (fun k => token_quoted.l0 k s (i : Int)) (qe i (qt l)) := by
 intro m
 induction m with
 | zero =>
  intro l i hl h; obtain rfl : l = [] := List.eq_nil_of_length_eq_zero (by omega); have := nil_drop h; refine Ev.shift ?_; simp only [token_quoted.l0, qt, qe]; exact Ev.neg (by omega) (Ev.now _)
 | succ m ih =>
  intro l i hl h
  cases l with
  | nil =>
   have := nil_drop h; refine Ev.shift ?_; simp only [token_quoted.l0, qt, qe]; exact Ev.neg (by omega) (Ev.now _)
  | cons c r =>
   obtain ⟨hlt, hb⟩ := bt_drop h; simp only [List.length_cons] at hl; refine Ev.shift ?_; simp only [token_quoted.l0]; rw [hb, w64 (n := (i : Int) + 1) (by omega) (by omega), w64 (n := (i : Int) + 1 + 1) (by omega) (by omega)]; refine Ev.pos (by omega) (Ev.pos (by omega) ?_); rw [qt.eq_def]; simp only; by_cases h1 : c = 34
   ·rw [if_pos h1]; exact Ev.pos ((byte_int c 34 (by decide)).2 h1) (Ev.now _)
   ·rw [if_neg h1]; refine Ev.neg (fun x => h1 ((byte_int c 34 (by decide)).1 x)) ?_; by_cases h2 : c = 10
    ·rw [if_pos h2]; exact Ev.pos ((byte_int c 10 (by decide)).2 h2) (Ev.now _)
    ·rw [if_neg h2]; refine Ev.neg (fun x => h2 ((byte_int c 10 (by decide)).1 x)) ?_; by_cases h3 : c = 92
     ·rw [if_pos h3]; refine Ev.pos ((byte_int c 92 (by decide)).2 h3) ?_; have hr := drop_next h
      cases r with
      | nil =>
       have := nil_drop hr; exact Ev.pos (by omega) (Ev.now _)
      | cons d r' =>
       obtain ⟨hlt', hb'⟩ := bt_drop hr; have hb' : bt s ((i : Int) + 1) = (d.toNat : Int) := hb'; rw [hb']; refine Ev.neg (by omega) (Ev.pos (by omega) (Ev.pos (by omega) ?_)); refine Ev.bind1 rfl ?_; simp only; by_cases h4 : d = 110 ∨ d = 34 ∨ d = 92
       ·rw [if_pos h4, qe_map]; refine Ev.neg (fun x => (esc d).1 x h4) ?_; have := ih r' (i + 2) (by simp at hl; omega) (drop_next hr); rw [show (i : Int) + 1 + 1 = ((i + 2 : Nat) : Int) by omega]; exact this
       ·rw [if_neg h4]; exact Ev.pos ((esc d).2 h4) (Ev.now _)
     ·rw [if_neg h3, qe_map]; refine Ev.neg (fun x => h3 ((byte_int c 92 (by decide)).1 x)) ?_
      exact_mod_cast ih r (i + 1) (by omega) (drop_next h)
end Go.Proofs.Ytahcpappailjgaa.P

set_option linter.unusedVariables false
set_option linter.unusedSimpArgs false
namespace Go.Proofs.Ytahcpappailjgaa.P
open Go.RowKit Go.Proofs.YtahcpappailjgaaW.PrintWords Go.Proofs.YtahcpappailjgaaW.PrintLast Go.Proofs.YtahcpappailjgaaW.PrintMore
def qn : Option Nat → Nat
 | none => 0
 | some n => n + 1
theorem qe_qn (x : Option Nat) : qe 1 x = (qn x : Int) := by
 cases x with
 | none => rfl
 | some n => show ((1 + n : Nat) : Int) = ((n + 1 : Nat) : Int); omega
theorem qn_le (r : Bs) : qn (qt r) ≤ r.length + 1 := by
 cases e : qt r with
 | none => exact Nat.zero_le _
 | some n => have := qt_pos r.length r (Nat.le_refl _) n e; show n + 1 ≤ _; omega
/-- The token at the beginning that is not bad: its kind and its bytes; no bytes: there is none. -/
def gd : Bs → Int × Nat
 | [] => (0, 0)
 | c :: r =>
  if bk c = true then (1, rn bk (c :: r)) else
  if (c :: r).take 2 = [47, 47] then (2, rn nl (c :: r)) else
  if lt c = true then (if (c :: r).take (rn ld (c :: r)) ∈ ws then 4 else 3, rn ld (c :: r)) else
  if dg c = true then (5, rn dg (c :: r)) else
  if c = 34 then (6, qn (qt r)) else (7, sn (c :: r))
theorem gd_cons (c : UInt8) (r : Bs) : gd (c :: r) =
  if bk c = true then (1, rn bk (c :: r)) else
  if (c :: r).take 2 = [47, 47] then (2, rn nl (c :: r)) else
  if lt c = true then (if (c :: r).take (rn ld (c :: r)) ∈ ws then 4 else 3, rn ld (c :: r)) else
  if dg c = true then (5, rn dg (c :: r)) else
  if c = 34 then (6, qn (qt r)) else (7, sn (c :: r)) := rfl
theorem sn_le (c : UInt8) (r : Bs) : sn (c :: r) ≤ (c :: r).length := by
 unfold sn
 split
 ·rename_i h; exact h.1
 ·split <;> simp
theorem gd_le (l : Bs) : (gd l).2 ≤ l.length := by
 cases l with
 | nil => exact Nat.le_refl _
 | cons c r =>
  rw [gd_cons]
  (repeat' split) <;> first | exact rn_le _ _ | exact qn_le r | exact sn_le c r
theorem isize (s : ByteArray) : s.data.toList.length = s.size := Ut.size_data s
theorem fin_eq (s : ByteArray) (kind : Int) (n : Nat) (h : n ≤ s.size) : token_good.fin s kind (n : Int) = some (kind, s.extract 0 n, decide (0 < n)) := by
 unfold token_good.fin; rw [if_pos (by omega), if_pos (by omega), Int.toNat_natCast]
 congr 3
 exact decide_eq_decide.2 (by omega)
theorem remark_eq (s : ByteArray) : strings_HasPrefix.f s ⟨#[47, 47]⟩ = some (decide (s.data.toList.take 2 = [47, 47])) := by
 have e2 : (s.extract 0 2).data.toList = s.data.toList.take 2 := ext_list s 0 2; have hl := isize s; unfold strings_HasPrefix.f stringslite_HasPrefix.f; have h2 : (((⟨#[47, 47]⟩ : ByteArray).size : Nat) : Int) = 2 := rfl; rw [h2]; by_cases h : (s.size : Int) ≥ 2
 ·rw [if_pos h, if_pos (by decide), if_pos (by omega)]
  show some _ = _
  rw [show ((2 : Int)).toNat = 2 from rfl, Lib.toList_data, e2, Lib.toList_data]
  congr 1
  exact Bool.eq_iff_iff.2 (by rw [beq_iff_eq, decide_eq_true_eq])
 ·rw [if_neg h]
  show some false = _
  congr 1
  symm
  apply decide_eq_false
  intro e; have := congrArg List.length e; rw [List.length_take] at this; simp only [List.length_cons, List.length_nil] at this
  omega
theorem good_ev (s : ByteArray) (c : UInt8) (r : Bs) (hs : s.data.toList = c :: r) (hz : s.size ≤ 1000000000) : Ev (fun k => token_good.f k s) ((gd (c :: r)).1, s.extract 0 (gd (c :: r)).2, decide (0 < (gd (c :: r)).2)) := by
 have hb : 0 < s.size ∧ bt s 0 = (c.toNat : Int) := bt_drop (i := 0) hs; have hl := isize s; have hg := gd_le (c :: r); rw [← hs, hl, hs] at hg; unfold token_good.f; refine Ev.pos (by omega) (Ev.pos hb.1 ?_); rw [hb.2]; refine Ev.bind1 (iblank c) ?_; unfold gd at hg ⊢; by_cases h1 : bk c = true
 ·simp only [if_pos h1] at hg ⊢; rw [irun iblank, hs]; exact Ev.congr (fun _ => fin_eq s 1 _ hg) (Ev.now _)
 ·simp only [if_neg h1] at hg ⊢; refine Ev.bind1 (remark_eq s) ?_; rw [hs]; by_cases h2 : (c :: r).take 2 = [47, 47]
  ·simp only [if_pos h2] at hg ⊢; refine Ev.pos (decide_eq_true h2) (Ev.bind1 (iline s) ?_); rw [hs]; exact Ev.congr (fun _ => fin_eq s 2 _ hg) (Ev.now _)
  ·simp only [if_neg h2] at hg ⊢; refine Ev.neg (by rw [decide_eq_false h2]; decide) (Ev.bind1 (iletter c) ?_); by_cases h3 : lt c = true
   ·simp only [if_pos h3] at hg ⊢; rw [irun iletdig]; refine Ev.pos hg (Ev.bind1 (iword _) ?_); rw [show (s.extract 0 (rn ld (c :: r))).data.toList = (c :: r).take (rn ld (c :: r)) by rw [← hs]; exact ext_list s 0 _]; by_cases h4 : (c :: r).take (rn ld (c :: r)) ∈ ws
    ·simp only [if_pos h4, decide_eq_true h4, if_true]; exact Ev.congr (fun _ => fin_eq s 4 _ hg) (Ev.now _)
    ·simp only [if_neg h4, decide_eq_false h4]; exact Ev.congr (fun _ => fin_eq s 3 _ hg) (Ev.now _)
   ·simp only [if_neg h3] at hg ⊢; refine Ev.bind1 (idigit c) ?_; by_cases h4 : dg c = true
    ·simp only [if_pos h4] at hg ⊢; rw [irun idigit]; exact Ev.congr (fun _ => fin_eq s 5 _ hg) (Ev.now _)
    ·simp only [if_neg h4] at hg ⊢; by_cases h5 : c = 34
     ·simp only [if_pos h5] at hg ⊢; refine Ev.pos ((byte_int c 34 (by decide)).2 h5) ?_
      have hq : Ev (fun k => token_quoted.f k s) (qn (qt r) : Int) := by
       rw [← qe_qn]
       have hd : s.data.toList.drop 1 = r := (by rw [hs]; rfl)
       exact iqt s hz r.length r 1 (Nat.le_refl _) hd
      exact Ev.bind hq (Ev.congr (fun _ => fin_eq s 6 _ hg) (Ev.now _))
     ·simp only [if_neg h5] at hg ⊢; refine Ev.neg (fun x => h5 ((byte_int c 34 (by decide)).1 x)) ?_; have hq := isn s hb.1 hz; rw [hs] at hq; exact Ev.bind hq (Ev.congr (fun _ => fin_eq s 7 _ hg) (Ev.now _))
/-- How many bytes a bad token goes on. -/
def sk : Bs → Nat
 | [] => 0
 | c :: r => if c = 34 ∨ 0 < (gd (c :: r)).2 then 0 else sk r + 1
theorem sk_le : ∀ l : Bs, sk l ≤ l.length
 | [] => Nat.le_refl _
 | c :: r => by
  rw [sk]
  split
  ·omega
  ·have := sk_le r; simp only [List.length_cons]; omega
/-- The token at the beginning. -/
def nx : Bs → Int × Nat
 | [] => (0, 0)
 | c :: r => if 0 < (gd (c :: r)).2 then gd (c :: r) else if c = 34 then (8, rn nl (c :: r)) else (8, sk r + 1)
theorem nx_cons (c : UInt8) (r : Bs) : nx (c :: r) = if 0 < (gd (c :: r)).2 then gd (c :: r) else if c = 34 then (8, rn nl (c :: r)) else (8, sk r + 1) := rfl
theorem nx_pos (c : UInt8) (r : Bs) : 0 < (nx (c :: r)).2 ∧ (nx (c :: r)).2 ≤ (c :: r).length := by
 rw [nx_cons]
 split
 ·rename_i h; exact ⟨h, gd_le _⟩
 ·split
  ·rename_i h
   refine ⟨?_, rn_le _ _⟩; rw [rn, if_pos (by rw [h]; decide)]
   omega
  ·have := sk_le r; exact ⟨Nat.succ_pos _, by simp only [List.length_cons]; omega⟩
theorem ext_suf (s : ByteArray) (i : Nat) : (s.extract i s.size).data.toList = s.data.toList.drop i := by
 rw [ext_list, List.take_of_length_le]; rw [List.length_drop, isize]; exact Nat.le_refl _
theorem next_loop (s : ByteArray) (hz : s.size ≤ 1000000000) : ∀ (r : Bs) (i : Nat), s.data.toList.drop i = r → i ≤ s.size → Ev (fun k => token_next.l0 k s (i : Int)) (8, s.extract 0 (i + sk r)) := by
 intro r
 induction r with
 | nil =>
  intro i h hi; have := nil_drop h; refine Ev.shift ?_; simp only [token_next.l0]; refine Ev.neg (by omega) (Ev.shift ?_); simp only [token_next.j1, sk]; refine Ev.neg (by decide) (Ev.pos (by omega) (Ev.pos (by omega) ?_)); exact Ev.now _
 | cons c r ih =>
  intro i h hi; obtain ⟨hlt, hb⟩ := bt_drop h; refine Ev.shift ?_; simp only [token_next.l0]; refine Ev.pos (by omega) (Ev.pos (by omega) (Ev.shift ?_)); simp only [token_next.j1]; rw [hb, sk]; by_cases h1 : c = 34
  ·subst h1; have e1 : (if (34 : UInt8) = 34 ∨ 0 < (gd (34 :: r)).2 then 0 else sk r + 1) = 0 := if_pos (.inl rfl); rw [e1]; refine Ev.neg (by decide) (Ev.pos (by omega) (Ev.pos (by omega) ?_)); exact Ev.now _
  ·refine Ev.pos (by rw [bne_iff_ne]; exact fun x => h1 ((byte_int c 34 (by decide)).1 x)) (Ev.pos (by omega) (Ev.pos (by omega) ?_))
   have hs : (s.extract i s.size).data.toList = c :: r := (by rw [ext_suf, h])
   have hsz : (s.extract i s.size).size ≤ 1000000000 := (by rw [ByteArray.size_extract]; omega)
   refine Ev.bind (good_ev _ c r hs hsz) ?_; simp only; by_cases h2 : 0 < (gd (c :: r)).2
   ·rw [if_pos (.inr h2)]; refine Ev.pos (decide_eq_true h2) ?_; exact Ev.now _
   ·rw [if_neg (fun x => x.elim h1 h2), w64 (n := (i : Int) + 1) (by omega) (by omega)]; refine Ev.neg (by rw [decide_eq_false h2]; decide) ?_; have := ih (i + 1) (drop_next h) (by omega); rw [show i + 1 + sk r = i + (sk r + 1) by omega] at this
    exact_mod_cast this
theorem next_ev (s : ByteArray) (c : UInt8) (r : Bs) (hs : s.data.toList = c :: r) (hz : s.size ≤ 1000000000) : Ev (fun k => token_next.f k s) ((nx (c :: r)).1, s.extract 0 (nx (c :: r)).2) := by
 have hb : 0 < s.size ∧ bt s 0 = (c.toNat : Int) := bt_drop (i := 0) hs; have hl := isize s; unfold token_next.f; refine Ev.bind (good_ev s c r hs hz) ?_; simp only; rw [nx_cons]; by_cases h : 0 < (gd (c :: r)).2
 ·rw [if_pos h]; exact Ev.pos (decide_eq_true h) (Ev.now _)
 ·rw [if_neg h, hb.2]; refine Ev.neg (by rw [decide_eq_false h]; decide) (Ev.pos (by omega) ?_); by_cases h5 : c = 34
  ·rw [if_pos h5]; refine Ev.pos ((byte_int c 34 (by decide)).2 h5) (Ev.bind1 (iline s) ?_); have := rn_le nl s.data.toList; rw [hl] at this; rw [← hs]; refine Ev.pos (by omega) (Ev.pos (by omega) ?_); exact Ev.now _
  ·rw [if_neg h5]; refine Ev.neg (fun x => h5 ((byte_int c 34 (by decide)).1 x)) ?_; have := next_loop s hz r 1 (by rw [hs]; rfl) hb.1; rw [Nat.add_comm] at this; exact this
/-- The tokens of a string. -/
def lx : Nat → ByteArray → List S59
 | 0, _ => []
 | m + 1, s => if s.size = 0 then [] else ⟨(nx s.data.toList).1, s.extract 0 (nx s.data.toList).2⟩ :: lx m (s.extract (nx s.data.toList).2 s.size)
theorem lex_ev : ∀ (m : Nat) (s : ByteArray) (acc : List S59), s.size ≤ m → s.size ≤ 1000000000 → acc.length + s.size ≤ 1000000000 → Ev (fun k => token_Lex.l0 k s acc) (acc ++ lx m s, 0) := by
 intro m
 induction m with
 | zero =>
  intro s acc h hz ha; have h0 : s.data.toList = [] := List.eq_nil_of_length_eq_zero (by rw [isize]; omega); refine Ev.shift ?_; simp only [token_Lex.l0]; refine Ev.pos (by rw [Lib.toList_data]; exact h0) ?_; rw [lx, List.append_nil]; exact Ev.now _
 | succ m ih =>
  intro s acc h hz ha; refine Ev.shift ?_; simp only [token_Lex.l0]; by_cases h0 : s.size = 0
  ·have h0' : s.data.toList = [] := List.eq_nil_of_length_eq_zero (by rw [isize]; omega); refine Ev.pos (by rw [Lib.toList_data]; exact h0') ?_; rw [lx, if_pos h0, List.append_nil]; exact Ev.now _
  ·obtain ⟨c, r, hs⟩ := drop_cons_of_lt (s := s) (i := 0) (by omega); have hs : s.data.toList = c :: r := hs; refine Ev.neg (by rw [Lib.toList_data, hs]; exact fun e => by cases e) (Ev.bind (next_ev s c r hs hz) ?_); obtain ⟨n1, n2⟩ := nx_pos c r; rw [← hs] at n1 n2 ⊢; rw [isize] at n2; rw [lx, if_neg h0]
   have hx : (s.extract 0 (nx s.data.toList).2).size = (nx s.data.toList).2 := (by rw [ByteArray.size_extract]; omega)
   have hy : (s.extract (nx s.data.toList).2 s.size).size = s.size - (nx s.data.toList).2 := (by rw [ByteArray.size_extract]; omega)
   simp only [hx]; refine Ev.pos (by omega) (Ev.pos (by omega) (Ev.pos (by omega) ?_)); rw [Int.toNat_natCast]; have := ih (s.extract (nx s.data.toList).2 s.size) (acc ++ [⟨(nx s.data.toList).1, s.extract 0 (nx s.data.toList).2⟩]) (by omega) (by omega) (by rw [List.length_append]; simp only [List.length_cons, List.length_nil]; omega); rw [List.append_assoc] at this; exact this
end Go.Proofs.Ytahcpappailjgaa.P

set_option linter.unusedVariables false
set_option linter.unusedSimpArgs false
namespace Go.Proofs.Ytahcpappailjgaa.P
/-! ### a line feed parts tokens -/
theorem rn_nl10 (p : UInt8 → Bool) (hp : p 10 = false) : ∀ (a b : Bs), rn p (a ++ 10 :: b) = rn p a
 | [], b => by simp [rn, hp]
 | c :: a, b => by
  rw [List.cons_append, rn, rn, rn_nl10 p hp a b]
theorem rn_all (p : UInt8 → Bool) : ∀ (a b : Bs), (∀ c ∈ a, p c = true) → rn p (a ++ b) = a.length + rn p b
 | [], b, _ => by simp
 | c :: a, b, h => by
  rw [List.cons_append, rn, if_pos (h c List.mem_cons_self), rn_all p a b (fun x hx => h x (List.mem_cons_of_mem _ hx)), List.length_cons]
  omega
theorem rn_lt (p : UInt8 → Bool) : ∀ (a b : Bs), ¬ (∀ c ∈ a, p c = true) → rn p (a ++ b) = rn p a ∧ rn p a < a.length
 | [], b, h => absurd (fun c hc => by cases hc) h
 | c :: a, b, h => by
  rw [List.cons_append, rn, rn]; by_cases hc : p c = true
  ·have h' : ¬ (∀ c ∈ a, p c = true) := fun x => h (fun y hy => by
    rcases List.mem_cons.1 hy with rfl | hy
    ·exact hc
    ·exact x y hy)
   have := rn_lt p a b h'; rw [if_pos hc, if_pos hc, this.1, List.length_cons]; exact ⟨rfl, by omega⟩
  ·rw [if_neg hc, if_neg hc, List.length_cons]; exact ⟨rfl, by omega⟩
theorem qt_nl : ∀ (m : Nat) (a b : Bs), a.length ≤ m → qt (a ++ 10 :: b) = qt (a ++ [10]) ∧ ∀ n, qt (a ++ [10]) = some n → n ≤ a.length := by
 intro m
 induction m with
 | zero =>
  intro a b h; obtain rfl : a = [] := List.eq_nil_of_length_eq_zero (by omega); exact ⟨by rw [List.nil_append, List.nil_append, qt.eq_def, qt.eq_def]; rfl, by rw [List.nil_append, qt.eq_def]; intro n hn; cases hn⟩
 | succ m ih =>
  intro a b h
  cases a with
  | nil => exact ⟨by rw [List.nil_append, List.nil_append, qt.eq_def, qt.eq_def]; rfl, by rw [List.nil_append, qt.eq_def]; intro n hn; cases hn⟩
  | cons c a =>
   simp only [List.length_cons] at h; obtain ⟨i1, i2⟩ := ih a b (by omega); rw [List.cons_append, List.cons_append, qt.eq_def, qt.eq_def (c :: (a ++ [10]))]; simp only; by_cases h1 : c = 34
   ·simp [h1]
   ·by_cases h2 : c = 10
    ·simp [h2]
    ·by_cases h3 : c = 92
     ·simp only [if_neg h1, if_neg h2, if_pos h3]
      cases a with
      | nil => simp
      | cons d a =>
       simp only [List.length_cons] at h; obtain ⟨i1, i2⟩ := ih a b (by omega); simp only [List.cons_append, i1]; refine ⟨trivial, ?_⟩; intro n hn
       split at hn
       ·obtain ⟨x, hx, rfl⟩ := Option.map_eq_some_iff.1 hn; have := i2 x hx; simp only [List.length_cons]
        omega
       ·cases hn
     ·simp only [if_neg h1, if_neg h2, if_neg h3, i1]; refine ⟨trivial, ?_⟩; intro n hn; obtain ⟨x, hx, rfl⟩ := Option.map_eq_some_iff.1 hn; have := i2 x hx; simp only [List.length_cons]
      omega
theorem sg_no10 : ∀ x ∈ sg, (10 : UInt8) ∉ x := by decide
theorem take2_nl (c : UInt8) (a b : Bs) : (c :: a ++ 10 :: b).take 2 = (c :: a ++ [10]).take 2 := by
 cases a <;> rfl
theorem take1_nl (c : UInt8) (a b : Bs) : (c :: a ++ 10 :: b).take 1 = (c :: a ++ [10]).take 1 := rfl
theorem sn_nl (c : UInt8) (a b : Bs) : sn (c :: a ++ 10 :: b) = sn (c :: a ++ [10]) ∧ sn (c :: a ++ [10]) ≤ (c :: a).length := by
 unfold sn; rw [take2_nl, take1_nl]
 have l1 : 2 ≤ (c :: a ++ 10 :: b).length := (by simp; omega)
 have l2 : 2 ≤ (c :: a ++ [10]).length := (by simp)
 refine ⟨by simp only [l1, l2, true_and], ?_⟩
 split
 ·rename_i h
  cases a with
  | nil => exact absurd (by simp) (sg_no10 _ h.2)
  | cons d a => simp
 ·split <;> simp
/-- The good token at the beginning, ahead of a line feed: it is the same whatever stands behind, or it is a blank that holds the line feed. -/
theorem gd_nl (c : UInt8) (a b : Bs) : (gd (c :: a ++ 10 :: b) = gd (c :: a ++ [10]) ∧ (gd (c :: a ++ [10])).2 ≤ (c :: a).length) ∨ (∀ x ∈ c :: a, bk x = true) := by
 by_cases hb : ∀ x ∈ c :: a, bk x = true
 ·exact .inr hb
 ·refine .inl ?_; rw [List.cons_append, List.cons_append, gd_cons, gd_cons]; have e2 : ∀ b, (c :: (a ++ 10 :: b)).take 2 = (c :: a ++ [10]).take 2 := take2_nl c a; rw [e2, e2]
  have hn := fun b => rn_nl10 nl (by decide) (c :: a) b
  have hl := fun b => rn_nl10 ld (by decide) (c :: a) b
  have hd := fun b => rn_nl10 dg (by decide) (c :: a) b
  have hk := fun b => rn_lt bk (c :: a) (10 :: b) hb
  simp only [List.cons_append] at hn hl hd hk; rw [(hk b).1, (hk []).1, hn b, hn [], hl b, hl [], hd b, hd []]; by_cases h1 : bk c = true
  ·simp only [if_pos h1]; exact ⟨trivial, by have := (hk b).2; omega⟩
  ·simp only [if_neg h1]; by_cases h2 : (c :: a ++ [10]).take 2 = [47, 47]
   ·simp only [if_pos h2]; exact ⟨trivial, rn_le _ _⟩
   ·simp only [if_neg h2]; by_cases h3 : lt c = true
    ·simp only [if_pos h3]
     have ht : ∀ b, (c :: (a ++ 10 :: b)).take (rn ld (c :: a)) = (c :: a).take (rn ld (c :: a)) := fun b => by
      rw [show c :: (a ++ 10 :: b) = (c :: a) ++ 10 :: b from rfl, List.take_append_of_le_length (rn_le _ _)]
     rw [ht b, ht []]; exact ⟨rfl, rn_le _ _⟩
    ·simp only [if_neg h3]; by_cases h4 : dg c = true
     ·simp only [if_pos h4]; exact ⟨trivial, rn_le _ _⟩
     ·simp only [if_neg h4]; by_cases h5 : c = 34
      ·simp only [if_pos h5]; obtain ⟨q1, q2⟩ := qt_nl a.length a b (Nat.le_refl _); rw [q1]; refine ⟨rfl, ?_⟩
       cases e : qt (a ++ [10]) with
       | none => exact Nat.zero_le _
       | some n => have := q2 n e; simp only [qn, List.length_cons]; omega
      ·simp only [if_neg h5]; have := sn_nl c a b; simp only [List.cons_append] at this; rw [this.1]; exact ⟨rfl, this.2⟩
theorem gd_bk (c : UInt8) (r : Bs) (h : bk c = true) : gd (c :: r) = (1, rn bk r + 1) := by
 rw [gd_cons, if_pos h, rn, if_pos h]
theorem sk_nl : ∀ (a b : Bs), sk (a ++ 10 :: b) = sk (a ++ [10]) ∧ sk (a ++ [10]) ≤ a.length
 | [], b => by
  have h : ∀ r, sk (10 :: r) = 0 := fun r => by
   rw [sk, gd_bk 10 r (by decide), if_pos (.inr (Nat.succ_pos _))]
  exact ⟨by rw [List.nil_append, List.nil_append, h, h], by rw [List.nil_append, h]; exact Nat.le_refl _⟩
 | c :: a, b => by
  obtain ⟨i1, i2⟩ := sk_nl a b; rw [List.cons_append, List.cons_append, sk, sk, i1]
  have hg : (0 < (gd (c :: (a ++ 10 :: b))).2) ↔ (0 < (gd (c :: (a ++ [10]))).2) := by
   rcases gd_nl c a b with h | h
   ·have h1 : gd (c :: (a ++ 10 :: b)) = gd (c :: (a ++ [10])) := h.1; rw [h1]
   ·have hc := h c List.mem_cons_self; rw [gd_bk c _ hc, gd_bk c _ hc]; exact ⟨fun _ => Nat.succ_pos _, fun _ => Nat.succ_pos _⟩
  by_cases h : c = 34 ∨ 0 < (gd (c :: (a ++ [10]))).2
  ·rw [if_pos h, if_pos (h.imp id hg.2)]; exact ⟨rfl, Nat.zero_le _⟩
  ·rw [if_neg h, if_neg (fun x => h (x.imp id hg.1)), List.length_cons]; exact ⟨rfl, by omega⟩
/-- The token at the beginning, ahead of a line feed. -/
theorem nx_nl (c : UInt8) (a b : Bs) : (nx (c :: a ++ 10 :: b) = nx (c :: a ++ [10]) ∧ (nx (c :: a ++ [10])).2 ≤ (c :: a).length) ∨ (∀ x ∈ c :: a, bk x = true) := by
 rcases gd_nl c a b with ⟨h1, h2⟩ | h
 ·refine .inl ?_; rw [List.cons_append, List.cons_append] at *; rw [nx_cons, nx_cons, h1]
  split
  ·exact ⟨rfl, h2⟩
  ·split
   ·have hn := fun b => rn_nl10 nl (by decide) (c :: a) b
    simp only [List.cons_append] at hn; rw [hn b, hn []]; exact ⟨rfl, rn_le _ _⟩
   ·obtain ⟨i1, i2⟩ := sk_nl a b; rw [i1]; exact ⟨rfl, by simp only [List.length_cons]; omega⟩
 ·exact .inr h
theorem nx_bk (c : UInt8) (r : Bs) (h : bk c = true) : nx (c :: r) = (1, rn bk r + 1) := by
 rw [nx_cons, gd_bk c r h, if_pos (Nat.succ_pos _)]
/-- A blank that holds the line feed. -/
theorem nx_blank (a b : Bs) (h : ∀ x ∈ a, bk x = true) : nx (a ++ 10 :: b) = (1, a.length + 1 + rn bk b) := by
 cases a with
 | nil => rw [List.nil_append, nx_bk 10 b (by decide), List.length_nil]; congr 1; omega
 | cons c a =>
  rw [List.cons_append, nx_bk c _ (h c List.mem_cons_self), rn_all bk a _ (fun x hx => h x (List.mem_cons_of_mem _ hx)), rn, if_pos (by decide), List.length_cons]
  congr 1
  omega
/-! ### all tokens -/
abbrev Tk := Int × Bs
def lxb : Nat → Bs → List Tk
 | 0, _ => []
 | m + 1, [] => []
 | m + 1, c :: r => ((nx (c :: r)).1, (c :: r).take (nx (c :: r)).2) :: lxb m ((c :: r).drop (nx (c :: r)).2)
theorem lxb_nil (m : Nat) : lxb m [] = [] := by cases m <;> rfl
theorem lxb_more : ∀ (m : Nat) (l : Bs), l.length ≤ m → ∀ k, lxb (m + k) l = lxb m l := by
 intro m
 induction m with
 | zero =>
  intro l h k; obtain rfl : l = [] := List.eq_nil_of_length_eq_zero (by omega); rw [lxb_nil, lxb_nil]
 | succ m ih =>
  intro l h k
  cases l with
  | nil => rw [lxb_nil, lxb_nil]
  | cons c r =>
   rw [show m + 1 + k = (m + k) + 1 by omega, lxb, lxb, ih _ (by have := nx_pos c r; rw [List.length_drop]; simp only [List.length_cons] at *; omega)]
/-- The tokens of a string. -/
def lex (l : Bs) : List Tk := lxb l.length l
theorem lxb_lex (m : Nat) (l : Bs) (h : l.length ≤ m) : lxb m l = lex l := by
 rw [show m = l.length + (m - l.length) by omega, lxb_more _ _ (Nat.le_refl _)]; rfl
theorem lex_nil : lex [] = [] := rfl
theorem lex_cons (c : UInt8) (r : Bs) : lex (c :: r) = ((nx (c :: r)).1, (c :: r).take (nx (c :: r)).2) :: lex ((c :: r).drop (nx (c :: r)).2) := by
 show lxb (r.length + 1) (c :: r) = _
 rw [lxb, lxb_lex]; have := nx_pos c r; rw [List.length_drop]; simp only [List.length_cons] at *
 omega
theorem lex_of_ne (l : Bs) (h : l ≠ []) : lex l = ((nx l).1, l.take (nx l).2) :: lex (l.drop (nx l).2) := by
 cases l with
 | nil => exact absurd rfl h
 | cons c r => exact lex_cons c r
def cat (l : List Tk) : Bs := (l.map (·.2)).flatten
theorem cat_cons (t : Tk) (l : List Tk) : cat (t :: l) = t.2 ++ cat l := rfl
theorem cat_lex : ∀ (m : Nat) (l : Bs), l.length ≤ m → cat (lex l) = l := by
 intro m
 induction m with
 | zero =>
  intro l h; obtain rfl : l = [] := List.eq_nil_of_length_eq_zero (by omega); rfl
 | succ m ih =>
  intro l h
  cases l with
  | nil => rfl
  | cons c r =>
   rw [lex_cons, cat_cons, ih _ (by have := nx_pos c r; rw [List.length_drop]; simp only [List.length_cons] at *; omega), List.take_append_drop]
theorem lex_pos (l : Bs) : ∀ t ∈ lex l, t.2 ≠ [] := by
 have : ∀ (m : Nat) (l : Bs), l.length ≤ m → ∀ t ∈ lex l, t.2 ≠ [] := by
  intro m
  induction m with
  | zero =>
   intro l h t ht; obtain rfl : l = [] := List.eq_nil_of_length_eq_zero (by omega)
   cases ht
  | succ m ih =>
   intro l h t ht
   cases l with
   | nil => cases ht
   | cons c r =>
    have h0 := nx_pos c r; rw [lex_cons] at ht
    rcases List.mem_cons.1 ht with rfl | ht
    ·intro e; have e : (c :: r).take (nx (c :: r)).2 = [] := e; have := congrArg List.length e; rw [List.length_take] at this; simp only [List.length_cons, List.length_nil] at *
     omega
    ·exact ih _ (by rw [List.length_drop]; simp only [List.length_cons] at *; omega) t ht
 exact this l.length l (Nat.le_refl _)
theorem take_app {α : Type} {n : Nat} {a : List α} (b : List α) (h : n ≤ a.length) : (a ++ b).take n = a.take n := List.take_append_of_le_length h
theorem drop_app {α : Type} {n : Nat} {a : List α} (b : List α) (h : n ≤ a.length) : (a ++ b).drop n = a.drop n ++ b := List.drop_append_of_le_length h
/-- Behind a line feed's blank: the tokens are those of the two parts. -/
theorem lex_behind : ∀ (m : Nat) (a s y : Bs), a.length ≤ m → (∀ x ∈ s, bk x = true) → (∀ c r, y = c :: r → bk c = false) → lex (a ++ 10 :: (s ++ y)) = lex (a ++ 10 :: s) ++ lex y := by
 intro m
 induction m with
 | zero =>
  intro a s y h hs hy; obtain rfl : a = [] := List.eq_nil_of_length_eq_zero (by omega)
  have hy0 : rn bk y = 0 := by
   cases y with
   | nil => rfl
   | cons c r => rw [rn, if_neg (by rw [hy c r rfl]; decide)]
  have e1 := nx_blank [] (s ++ y) (fun x hx => by cases hx); have e2 := nx_blank [] s (fun x hx => by cases hx); rw [rn_all bk s y hs, hy0] at e1
  have e3 : rn bk s = s.length := (by have := rn_all bk s [] hs; rw [List.append_nil] at this; rw [this]; rfl)
  rw [e3] at e2; rw [lex_of_ne ([] ++ 10 :: (s ++ y)) (by simp), lex_of_ne ([] ++ 10 :: s) (by simp), e1, e2]; simp only [List.length_nil, List.nil_append, List.cons_append]
  have t1 : (10 :: (s ++ y)).take (0 + 1 + (s.length + 0)) = 10 :: s := by
   rw [show 10 :: (s ++ y) = (10 :: s) ++ y from rfl]; exact List.take_left' (by simp; omega)
  have t2 : (10 :: s).take (0 + 1 + s.length) = 10 :: s := List.take_of_length_le (by simp; omega)
  have d1 : (10 :: (s ++ y)).drop (0 + 1 + (s.length + 0)) = y := by
   rw [show 10 :: (s ++ y) = (10 :: s) ++ y from rfl]; exact List.drop_left' (by simp; omega)
  have d2 : (10 :: s).drop (0 + 1 + s.length) = [] := List.drop_of_length_le (by simp; omega); rw [t1, t2, d1, d2, lex_nil, List.nil_append]
 | succ m ih =>
  intro a s y h hs hy
  cases a with
  | nil => exact ih [] s y (Nat.zero_le _) hs hy
  | cons c a =>
   simp only [List.length_cons] at h; by_cases hb : ∀ x ∈ c :: a, bk x = true
   ·have hy0 : rn bk y = 0 := by
     cases y with
     | nil => rfl
     | cons c r => rw [rn, if_neg (by rw [hy c r rfl]; decide)]
    have e1 := nx_blank (c :: a) (s ++ y) hb; have e2 := nx_blank (c :: a) s hb; rw [rn_all bk s y hs, hy0] at e1
    have e3 : rn bk s = s.length := (by have := rn_all bk s [] hs; rw [List.append_nil] at this; rw [this]; rfl)
    rw [e3] at e2; rw [lex_of_ne (c :: a ++ 10 :: (s ++ y)) (by simp), lex_of_ne (c :: a ++ 10 :: s) (by simp), e1, e2]
    have t0 : c :: a ++ 10 :: (s ++ y) = (c :: a ++ 10 :: s) ++ y := (by simp)
    have t1 : (c :: a ++ 10 :: (s ++ y)).take ((c :: a).length + 1 + (s.length + 0)) = c :: a ++ 10 :: s := by
     rw [t0]; exact List.take_left' (by simp; omega)
    have t2 : (c :: a ++ 10 :: s).take ((c :: a).length + 1 + s.length) = c :: a ++ 10 :: s := List.take_of_length_le (by simp; omega)
    have d1 : (c :: a ++ 10 :: (s ++ y)).drop ((c :: a).length + 1 + (s.length + 0)) = y := by
     rw [t0]; exact List.drop_left' (by simp; omega)
    have d2 : (c :: a ++ 10 :: s).drop ((c :: a).length + 1 + s.length) = [] := List.drop_of_length_le (by simp; omega); dsimp only; rw [t1, t2, d1, d2, lex_nil]; rfl
   ·have n1 := (nx_nl c a (s ++ y)).resolve_right hb; have n2 := (nx_nl c a s).resolve_right hb; have hp := nx_pos c (a ++ [10]); rw [lex_of_ne (c :: a ++ 10 :: (s ++ y)) (by simp), lex_of_ne (c :: a ++ 10 :: s) (by simp), n1.1, n2.1]; rw [take_app _ n1.2, take_app _ n1.2, drop_app _ n1.2, drop_app _ n1.2]; have hp : 0 < (nx (c :: a ++ [10])).2 := hp.1; rw [ih _ s y (by rw [List.length_drop]; simp only [List.length_cons]; omega) hs hy]; rfl
/-- Ahead of a line feed's blank: tokens that end ahead of it stay, whatever stands behind it. -/
theorem lex_ahead : ∀ (u : List Tk) (d z z' : Bs) (v : List Tk), (∀ x ∈ d, bk x = true) → lex (cat u ++ (d ++ 10 :: z)) = u ++ v → lex (cat u ++ (d ++ 10 :: z')) = u ++ lex (d ++ 10 :: z')
 | [], d, z, z', v, _, _ => rfl
 | t :: u, d, z, z', v, hd, h => by
  have hne : t.2 ≠ [] := lex_pos (cat (t :: u) ++ (d ++ 10 :: z)) t (by rw [h]; exact List.mem_cons_self); obtain ⟨k, w⟩ := t
  cases w with
  | nil => exact absurd rfl hne
  | cons c w =>
   rw [cat_cons] at h ⊢; simp only [List.append_assoc] at h ⊢
   have hlt : (nx ((c :: w) ++ (cat u ++ (d ++ 10 :: z)))).2 = (c :: w).length := by
    have e := lex_of_ne ((c :: w) ++ (cat u ++ (d ++ 10 :: z))) (by simp); rw [h] at e; rw [List.cons_append] at e; injection e with e1 e2; have e3 := congrArg List.length (congrArg Prod.snd e1); simp only [List.length_take] at e3; have := nx_pos c (w ++ (cat u ++ (d ++ 10 :: z))); simp only [List.cons_append] at this e3 ⊢
    omega
   have key : ∀ z, (c :: w) ++ (cat u ++ (d ++ 10 :: z)) = c :: (w ++ cat u ++ d) ++ 10 :: z := fun z => by simp
   have hnb : ¬ (∀ x ∈ c :: (w ++ cat u ++ d), bk x = true) := by
    intro hb; have := nx_blank _ z hb; rw [← key] at this; rw [this] at hlt; simp only [List.length_cons, List.length_append] at hlt
    omega
   have n1 := (nx_nl c (w ++ cat u ++ d) z).resolve_right hnb; have n2 := (nx_nl c (w ++ cat u ++ d) z').resolve_right hnb
   have hnx : nx ((c :: w) ++ (cat u ++ (d ++ 10 :: z'))) = nx ((c :: w) ++ (cat u ++ (d ++ 10 :: z))) := by
    rw [key, key, n1.1, n2.1]
   have e := lex_of_ne ((c :: w) ++ (cat u ++ (d ++ 10 :: z))) (by simp); rw [h, hlt, List.take_left' rfl, List.drop_left' rfl, List.cons_append] at e; injection e with e1 e2; have ih := lex_ahead u d z z' v hd e2.symm; rw [lex_of_ne ((c :: w) ++ (cat u ++ (d ++ 10 :: z'))) (by simp), hnx, hlt, List.take_left' rfl, List.drop_left' rfl, ih, e1]; rfl
/-- A token with a line feed is a blank, and the longest one. -/
theorem nx_has (l : Bs) (h : (10 : UInt8) ∈ l.take (nx l).2) : (∀ x ∈ l.take (nx l).2, bk x = true) ∧ (∀ c r, l.drop (nx l).2 = c :: r → bk c = false) := by
 obtain ⟨a, b, hab, hna⟩ : ∃ a b, l = a ++ 10 :: b ∧ (10 : UInt8) ∉ a := by
  obtain ⟨a, b, e, hn⟩ := List.append_of_mem (List.mem_of_mem_take h) |> fun ⟨a, b, e⟩ => (List.eq_append_cons_of_mem (List.mem_of_mem_take h))
  exact ⟨a, b, e, hn⟩
 subst hab
 have key : ∀ x ∈ a, bk x = true := by
  cases a with
  | nil => intro x hx; cases hx
  | cons c a =>
   rcases nx_nl c a b with ⟨h1, h2⟩ | hb
   ·exfalso
    rw [h1, take_app _ h2] at h; exact hna (List.mem_of_mem_take h)
   ·exact hb
 have e := nx_blank a b key; rw [e]; dsimp only
 have hr : ∀ b : Bs, (∀ x ∈ b.take (rn bk b), bk x = true) ∧ (∀ c r, b.drop (rn bk b) = c :: r → bk c = false) := by
  intro b
  induction b with
  | nil => exact ⟨fun x hx => by simp at hx, fun c r h => by simp at h⟩
  | cons y b ih =>
   rw [rn]; by_cases hy : bk y = true
   ·rw [if_pos hy]; refine ⟨fun x hx => ?_, fun c r h => ?_⟩
    ·rw [List.take_succ_cons] at hx
     rcases List.mem_cons.1 hx with rfl | hx
     ·exact hy
     ·exact ih.1 x hx
    ·rw [List.drop_succ_cons] at h; exact ih.2 c r h
   ·rw [if_neg hy]; refine ⟨fun x hx => by simp at hx, fun c r h => ?_⟩; rw [List.drop_zero] at h; injection h with h _; rw [← h]
    simpa using hy
 have t1 : (a ++ 10 :: b).take (a.length + 1 + rn bk b) = a ++ 10 :: b.take (rn bk b) := by
  rw [show a.length + 1 + rn bk b = a.length + (rn bk b + 1) by omega, List.take_length_add_append, List.take_succ_cons]
 have t2 : (a ++ 10 :: b).drop (a.length + 1 + rn bk b) = b.drop (rn bk b) := by
  rw [show a.length + 1 + rn bk b = a.length + (rn bk b + 1) by omega, List.drop_length_add_append, List.drop_succ_cons]
 rw [t1, t2]; refine ⟨fun x hx => ?_, (hr b).2⟩
 rcases List.mem_append.1 hx with hx | hx
 ·exact key x hx
 ·rcases List.mem_cons.1 hx with rfl | hx
  ·decide
  ·exact (hr b).1 x hx
/-- The tokens behind a part of the tokens. -/
theorem lex_tail : ∀ (u : List Tk) (T : Bs) (v : List Tk), lex T = u ++ v → T = cat u ++ cat v ∧ lex (cat v) = v
 | [], T, v, h => by
  have h : lex T = v := h; have e := cat_lex T.length T (Nat.le_refl _); rw [← h]; rw [e]; exact ⟨rfl, rfl⟩
 | t :: u, T, v, h => by
  cases T with
  | nil => cases h
  | cons c r =>
   rw [lex_cons, List.cons_append] at h; injection h with h1 h2; obtain ⟨i1, i2⟩ := lex_tail u _ v h2; refine ⟨?_, i2⟩; rw [cat_cons, List.append_assoc, ← i1, ← h1]; exact (List.take_append_drop _ _).symm
/-- A token with a line feed, among all. -/
theorem lex_has (u : List Tk) (T : Bs) (t : Tk) (v : List Tk) (h : lex T = u ++ t :: v) (hm : (10 : UInt8) ∈ t.2) : (∀ x ∈ t.2, bk x = true) ∧ (∀ c r, cat v = c :: r → bk c = false) := by
 obtain ⟨h1, h2⟩ := lex_tail u T (t :: v) h
 have hne : cat (t :: v) ≠ [] := by
  intro e; rw [e] at h2
  cases h2
 have e := lex_of_ne _ hne; rw [h2] at e; injection e with e1 e2; have e3 : t.2 = (cat (t :: v)).take (nx (cat (t :: v))).2 := congrArg Prod.snd e1
 have e4 : cat v = (cat (t :: v)).drop (nx (cat (t :: v))).2 := by
  have := cat_lex _ ((cat (t :: v)).drop (nx (cat (t :: v))).2) (Nat.le_refl _); rw [← e2] at this; exact this
 rw [e3] at hm ⊢; rw [e4]; exact nx_has _ hm
def Front (P : Bs) (u : List Tk) : Prop := (cat u).length ≤ P.length ∧ ∀ W, lex (P ++ W) = u ++ lex ((P ++ W).drop (cat u).length)
def Back (Q : Bs) (v : List Tk) : Prop := (cat v).length ≤ Q.length ∧ ∀ X, lex (X ++ Q) = lex ((X ++ Q).take ((X ++ Q).length - (cat v).length)) ++ v
theorem front_nil (P : Bs) : Front P [] := ⟨Nat.zero_le _, fun W => rfl⟩
theorem back_nil (Q : Bs) : Back Q [] := ⟨Nat.zero_le _, fun X => by
 show _ = lex ((X ++ Q).take ((X ++ Q).length - 0)) ++ []
 rw [Nat.sub_zero, List.take_length, List.append_nil]⟩
theorem front_back {P Q : Bs} {u v : List Tk} (hP : Front P u) (hQ : Back Q v) (M : Bs) :
  lex (P ++ (M ++ Q)) = u ++ (lex (((P ++ (M ++ Q)).take ((P ++ (M ++ Q)).length - (cat v).length)).drop (cat u).length) ++ v) := by
 rw [hP.2, drop_app _ hP.1, show P.drop (cat u).length ++ (M ++ Q) = (P.drop (cat u).length ++ M) ++ Q by rw [List.append_assoc], hQ.2]
 congr 3
 rw [List.drop_take]; rw [show P ++ (M ++ Q) = (P ++ M) ++ Q by rw [List.append_assoc], drop_app _ (by have := hP.1; simp; omega), drop_app _ hP.1]
 congr 1
 have := hP.1; have := hQ.1; simp only [List.length_append, List.length_drop]
 omega
theorem mid_split {u x y P Z : Bs} (h : u ++ (x ++ y) = P ++ 10 :: Z) (h1 : u.length ≤ P.length) (h2 : P.length < u.length + x.length) : ∃ d s, P = u ++ d ∧ x = d ++ 10 :: s ∧ Z = s ++ y := by
 have e1 : P.take u.length = u := by
  have := congrArg (List.take u.length) h; rw [List.take_left' rfl, take_app _ h1] at this; exact this.symm
 obtain ⟨d, rfl⟩ : ∃ d, P = u ++ d := ⟨P.drop u.length, by rw [← e1, List.length_take, Nat.min_eq_left h1, List.take_append_drop]⟩
 rw [List.append_assoc] at h; have h := List.append_cancel_left h; rw [List.length_append] at h2
 have e2 : x.take d.length = d := by
  have := congrArg (List.take d.length) h; rw [List.take_left' rfl, take_app _ (by omega)] at this; exact this
 obtain ⟨q, hq⟩ : ∃ q, x = d ++ q := ⟨x.drop d.length, by
  have h3 : d.length ≤ x.length := (by omega)
  conv => rhs; lhs; rw [← e2]
  rw [List.take_append_drop]⟩
 subst hq; rw [List.append_assoc] at h; have h := List.append_cancel_left h
 cases q with
 | nil => simp at h2
 | cons c s =>
  rw [List.cons_append] at h; injection h with h3 h4; subst h3; exact ⟨d, s, rfl, rfl, h4.symm⟩
theorem front_of {T P Z : Bs} {u v : List Tk} {t : Tk} (hs : lex T = u ++ t :: v) (hT : T = P ++ 10 :: Z) (h1 : (cat u).length ≤ P.length) (h2 : P.length < (cat u).length + t.2.length) (P2 : Bs) : Front (P ++ 10 :: P2) u := by
 obtain ⟨e, _⟩ := lex_tail _ T _ hs; rw [cat_cons] at e; obtain ⟨d, s, rfl, hx, hZ⟩ := mid_split (e.symm.trans hT) h1 h2; obtain ⟨hb, _⟩ := lex_has _ T _ _ hs (by rw [hx]; simp); rw [hx] at hb
 have hd : ∀ x ∈ d, bk x = true := fun x hx => hb x (List.mem_append_left _ hx)
 refine ⟨by simp, fun W => ?_⟩; rw [hT, List.append_assoc] at hs; have := lex_ahead u d Z (P2 ++ W) (t :: v) hd hs; rw [show cat u ++ d ++ 10 :: P2 ++ W = cat u ++ (d ++ 10 :: (P2 ++ W)) by simp, this, List.drop_left' rfl]
theorem back_of {T P Z : Bs} {u v : List Tk} {t : Tk} (hs : lex T = u ++ t :: v) (hT : T = P ++ 10 :: Z) (h1 : (cat u).length ≤ P.length) (h2 : P.length < (cat u).length + t.2.length) (P2 : Bs) : Back (P2 ++ 10 :: Z) v := by
 obtain ⟨e, _⟩ := lex_tail _ T _ hs; have hv : lex (cat v) = v := (lex_tail (u ++ [t]) T v (by rw [hs]; simp)).2; rw [cat_cons] at e; obtain ⟨d, s, rfl, hx, hZ⟩ := mid_split (e.symm.trans hT) h1 h2; obtain ⟨hb, hm⟩ := lex_has _ T _ _ hs (by rw [hx]; simp); rw [hx] at hb
 have hd : ∀ x ∈ s, bk x = true := fun x hx => hb x (List.mem_append_right _ (List.mem_cons_of_mem _ hx))
 subst hZ; refine ⟨by simp; omega, fun X => ?_⟩; have := lex_behind (X ++ P2).length (X ++ P2) s (cat v) (Nat.le_refl _) hd hm; rw [hv] at this; rw [show X ++ (P2 ++ 10 :: (s ++ cat v)) = X ++ P2 ++ 10 :: (s ++ cat v) by simp, this]
 congr 2
 rw [show X ++ P2 ++ 10 :: (s ++ cat v) = (X ++ P2 ++ 10 :: s) ++ cat v by simp, List.take_left']; simp only [List.length_append]
 omega
end Go.Proofs.Ytahcpappailjgaa.P

set_option linter.unusedVariables false
set_option linter.unusedSimpArgs false
namespace Go.Proofs.Ytahcpappailjgaa.P
open Go.RowKit Go.Proofs.YtahcpappailjgaaW.PrintWords Go.Proofs.YtahcpappailjgaaW.PrintLast Go.Proofs.YtahcpappailjgaaW.PrintMore
abbrev Tn := S59
instance : DecidableEq Tn := fun a b =>
 if h : a.f0 = b.f0 ∧ a.f1 = b.f1 then isTrue (by cases a; cases b; simp only at h; rw [h.1, h.2]) else isFalse (fun e => h (by rw [e]; exact ⟨rfl, rfl⟩))
def mkS (t : Tk) : Tn := ⟨t.1, ba t.2⟩
def unS (t : Tn) : Tk := (t.f0, t.f1.data.toList)
theorem mk_un (t : Tn) : mkS (unS t) = t := by
 cases t with
 | mk a b => simp only [mkS, unS, list_ba]
theorem un_mk (t : Tk) : unS (mkS t) = t := by
 simp only [mkS, unS, ba_list]
theorem ba_eq {s : ByteArray} {l : Bs} (h : s.data.toList = l) : s = ba l := by rw [← h, list_ba]
theorem ext_ba (s : ByteArray) (a b : Nat) : s.extract a b = ba ((s.data.toList.drop a).take (b - a)) := ba_eq (ext_list s a b)
def lexS (s : Bs) : List Tn := (lex s).map mkS
theorem lx_lex : ∀ (m : Nat) (s : ByteArray), s.size ≤ m → lx m s = lexS s.data.toList := by
 intro m
 induction m with
 | zero =>
  intro s h; have h0 : s.data.toList = [] := List.eq_nil_of_length_eq_zero (by rw [isize]; omega); rw [lx, h0]; rfl
 | succ m ih =>
  intro s h; rw [lx]; by_cases h0 : s.size = 0
  ·have h0' : s.data.toList = [] := List.eq_nil_of_length_eq_zero (by rw [isize]; omega); rw [if_pos h0, h0']; rfl
  ·obtain ⟨c, r, hs⟩ := drop_cons_of_lt (s := s) (i := 0) (by omega); have hs : s.data.toList = c :: r := hs; obtain ⟨n1, n2⟩ := nx_pos c r; rw [← hs] at n1 n2; rw [if_neg h0, ih _ (by rw [ByteArray.size_extract]; omega), ext_suf, ext_ba]; rw [lexS, lexS, lex_of_ne s.data.toList (by rw [hs]; simp), List.map_cons]
   congr 1
theorem Lex_ev (s : ByteArray) (hz : s.size ≤ 1000000000) : Ev (fun k => token_Lex.f k s) (if (s.size : Int) > 20000 then ([], 3) else (lexS s.data.toList, 0)) := by
 unfold token_Lex.f; by_cases h : (s.size : Int) > 20000
 ·rw [if_pos h]; exact Ev.pos h (Ev.now _)
 ·rw [if_neg h]; have := lex_ev s.size s [] (Nat.le_refl _) hz (by simpa using hz); rw [lx_lex _ _ (Nat.le_refl _), List.nil_append] at this; exact Ev.neg h this
/-! ### Same -/
theorem rd_tn {l : List Tn} {i : Nat} {e : Tn} {r : List Tn} (h : l.drop i = e :: r) : rd_T59 l (i : Int) = e := by
 have h1 : l[i]? = some e := by
  have := congrArg (fun x : List Tn => x[0]?) h
  simpa [List.getElem?_drop] using this
 simp [rd_T59, List.getD_eq_getElem?_getD, h1]
theorem str_eq {s t : ByteArray} : (s.toList == t.toList) = decide (s = t) := by
 have h : (s.toList = t.toList) ↔ s = t := by
  constructor
  ·intro h; rw [Lib.toList_data, Lib.toList_data] at h; rw [← list_ba s, h, list_ba]
  ·intro h; rw [h]
 by_cases e : s = t
 ·rw [e]; simp
 ·rw [decide_eq_false e, beq_eq_false_iff_ne]
  exact fun x => e (h.1 x)
theorem tn_ne (e e' : Tn) : ((!(e.f0 == e'.f0) || (!(e.f1.toList == e'.f1.toList))) = true) ↔ ¬ e = e' := by
 rw [str_eq]
 cases e with
 | mk a b =>
  cases e' with
  | mk c d =>
   simp only [S59.mk.injEq, not_and, Bool.or_eq_true, Bool.not_eq_true', beq_eq_false_iff_ne, decide_eq_false_iff_not]; by_cases h : a = c
   ·simp [h]
   ·simp [h]
theorem rsame_loop (a b : List Tn) (hab : a.length = b.length) (hl : a.length ≤ 1000000000) : ∀ (r q : List Tn) (i : Nat), a.drop i = r → b.drop i = q → Ev (fun k => marginaliaref03_Same.l0 k a b (i : Int)) (decide (r = q)) := by
 intro r
 induction r with
 | nil =>
  intro q i h h'; have := le_of_nil h
  have hq : q = [] := (by rw [← h']; exact List.drop_of_length_le (by omega))
  subst hq; refine Ev.shift ?_; simp only [marginaliaref03_Same.l0]; exact Ev.neg (by omega) (Ev.now _)
 | cons e r ih =>
  intro q i h h'; have hlt := lt_of_drop h
  cases q with
  | nil => have := le_of_nil h'; omega
  | cons e' q =>
   refine Ev.shift ?_; simp only [marginaliaref03_Same.l0]; rw [rd_tn h, rd_tn h']; refine Ev.pos (by omega) (Ev.pos (by omega) (Ev.pos (by omega) ?_)); by_cases he : e = e'
   ·subst he; refine Ev.neg (fun x => (tn_ne e e).1 x rfl) ?_; rw [w64 (n := (i : Int) + 1) (by omega) (by omega), show decide (e :: r = e :: q) = decide (r = q) by simp]
    exact_mod_cast ih q (i + 1) (drop_next h) (drop_next h')
   ·refine Ev.pos ((tn_ne e e').2 he) ?_; rw [show decide (e :: r = e' :: q) = false from decide_eq_false (fun x => he (by injection x))]; exact Ev.now _
theorem rSame_ev (a b : List Tn) (hl : a.length ≤ 1000000000) : Ev (fun k => marginaliaref03_Same.f k a b) (decide (a = b)) := by
 unfold marginaliaref03_Same.f; by_cases h : a.length = b.length
 ·exact Ev.pos (by omega) (rsame_loop a b h hl a b 0 rfl rfl)
 ·rw [decide_eq_false (fun e => h (by rw [e]))]; exact Ev.neg (by omega) (Ev.now _)
theorem equal_loop (a b : List Tn) (hab : a.length = b.length) (hl : a.length ≤ 1000000000) : ∀ (r q : List Tn) (i : Nat), a.drop i = r → b.drop i = q → Ev (fun k => api_Token_49.l0 k a b (a.length : Int) (i : Int)) (decide (r = q)) := by
 intro r
 induction r with
 | nil =>
  intro q i h h'; have := le_of_nil h
  have hq : q = [] := (by rw [← h']; exact List.drop_of_length_le (by omega))
  subst hq; refine Ev.shift ?_; simp only [api_Token_49.l0]; exact Ev.neg (by omega) (Ev.now _)
 | cons e r ih =>
  intro q i h h'; have hlt := lt_of_drop h
  cases q with
  | nil => have := le_of_nil h'; omega
  | cons e' q =>
   refine Ev.shift ?_; simp only [api_Token_49.l0]; rw [rd_tn h, rd_tn h']; refine Ev.pos (by omega) (Ev.pos (by omega) (Ev.pos (by omega) (Ev.pos (by omega) ?_))); by_cases he : e = e'
   ·subst he; refine Ev.neg (fun x => (tn_ne e e).1 x rfl) ?_; rw [w64 (n := (i : Int) + 1) (by omega) (by omega), show decide (e :: r = e :: q) = decide (r = q) by simp]
    exact_mod_cast ih q (i + 1) (drop_next h) (drop_next h')
   ·refine Ev.pos ((tn_ne e e').2 he) ?_; rw [show decide (e :: r = e' :: q) = false from decide_eq_false (fun x => he (by injection x))]; exact Ev.now _
theorem equal_ev (a b : List Tn) (hl : a.length ≤ 1000000000) : Ev (fun k => api_Token_49.f k a b) (decide (a = b)) := by
 unfold api_Token_49.f; by_cases h : a.length = b.length
 ·exact Ev.pos (by omega) (equal_loop a b h hl a b 0 rfl rfl)
 ·rw [decide_eq_false (fun e => h (by rw [e]))]; exact Ev.neg (by omega) (Ev.now _)
/-! ### Cut -/
/-- The bytes of tokens. -/
def catS (l : List Tn) : Bs := (l.map fun t => t.f1.data.toList).flatten
def tot (l : List Tn) : Nat := (l.map fun t => t.f1.size).sum
theorem catS_cons (t : Tn) (l : List Tn) : catS (t :: l) = t.f1.data.toList ++ catS l := rfl
theorem tot_cons (t : Tn) (l : List Tn) : tot (t :: l) = t.f1.size + tot l := by simp [tot]
theorem tot_append (a b : List Tn) : tot (a ++ b) = tot a + tot b := by simp [tot]
theorem tot_one (t : Tn) : tot [t] = t.f1.size := by simp [tot]
theorem catS_length (l : List Tn) : (catS l).length = tot l := by
 induction l with
 | nil => rfl
 | cons t l ih => rw [catS_cons, List.length_append, isize, ih, tot_cons]
def Fine3 (l : List Tn) : Prop := l.length ≤ 20001 ∧ tot l ≤ 20001
theorem joined_go : ∀ (l : List Tn) (acc : Bs), (acc.length + tot l ≤ 20000 → token_joined.go l acc = some (ba (acc ++ catS l), true)) ∧ (¬ acc.length + tot l ≤ 20000 → ∃ s, token_joined.go l acc = some (s, false))
 | [], acc => by
  rw [token_joined.go, show acc ++ catS [] = acc from List.append_nil _]; refine ⟨fun h => ?_, fun h => ⟨⟨acc.toArray⟩, ?_⟩⟩
  ·rw [show decide ((acc.length : Int) ≤ 20000) = true from decide_eq_true (by simp [tot] at h; omega)]; rfl
  ·rw [show decide ((acc.length : Int) ≤ 20000) = false from decide_eq_false (by simp [tot] at h; omega)]
 | t :: r, acc => by
  rw [token_joined.go, tot_cons]; obtain ⟨i1, i2⟩ := joined_go r (acc ++ t.f1.data.toList); rw [List.length_append, isize] at i1 i2; by_cases h1 : (acc.length : Int) > 20000
  ·rw [if_pos h1]; exact ⟨fun h => by omega, fun _ => ⟨_, rfl⟩⟩
  ·rw [if_neg h1]; by_cases h2 : (t.f1.size : Int) > 20000
   ·rw [if_pos h2]; exact ⟨fun h => by omega, fun _ => ⟨_, rfl⟩⟩
   ·rw [if_neg h2]; refine ⟨fun h => ?_, fun h => i2 (by omega)⟩; rw [i1 (by omega), catS_cons, List.append_assoc]
/-- The error of tokens. -/
def chkT (l : List Tn) : Int := if tot l > 20000 ∨ l.length > 20000 then 3 else if lexS (catS l) = l then 0 else 4
theorem chkT_ok {l : List Tn} (h : chkT l = 0) : tot l ≤ 20000 ∧ l.length ≤ 20000 ∧ lexS (catS l) = l := by
 unfold chkT at h
 split at h
 ·cases h
 ·split at h
  ·rename_i h1 h2
   exact ⟨by omega, by omega, h2⟩
  ·cases h
theorem ba_data (l : Bs) : (ba l).data.toList = l := ba_list l
theorem lexS_length (l : Bs) : (lexS l).length ≤ l.length := by
 rw [lexS, List.length_map]
 have : ∀ (m : Nat) (l : Bs), l.length ≤ m → (lex l).length ≤ l.length := by
  intro m
  induction m with
  | zero =>
   intro l h; obtain rfl : l = [] := List.eq_nil_of_length_eq_zero (by omega); exact Nat.le_refl _
  | succ m ih =>
   intro l h
   cases l with
   | nil => exact Nat.le_refl _
   | cons c r =>
    have h0 := nx_pos c r; have h1 := ih ((c :: r).drop (nx (c :: r)).2) (by rw [List.length_drop]; simp only [List.length_cons] at *; omega); rw [List.length_drop] at h1; rw [lex_cons, List.length_cons]; simp only [List.length_cons] at *
    omega
 exact this l.length l (Nat.le_refl _)
theorem Text_ev (l : List Tn) (hf : Fine3 l) : Ev (fun k => token_Text.f k l) (if chkT l = 0 then ba (catS l) else ⟨#[]⟩, chkT l) := by
 have h1 := hf.1; unfold token_Text.f token_joined.f; obtain ⟨j1, j2⟩ := joined_go l []; rw [List.length_nil, Nat.zero_add] at j1 j2; by_cases ht : tot l ≤ 20000
 ·refine Ev.bind1 (j1 ht) (Ev.pos rfl (Ev.shift ?_)); simp only [token_Text.j0, List.nil_append]; by_cases hn : (l.length : Int) > 20000
  ·have hc : chkT l = 3 := if_pos (by omega); rw [hc]; exact Ev.pos (decide_eq_true hn) (Ev.now _)
  ·refine Ev.neg (by rw [decide_eq_false hn]; decide) ?_
   have hsz : (ba (catS l)).size = tot l := (by rw [ba_size, catS_length])
   have hL := Lex_ev (ba (catS l)) (by omega); rw [if_neg (by omega), ba_data] at hL; refine Ev.bind hL (Ev.bind (equal_ev (lexS (catS l)) l (by have := lexS_length (catS l); rw [catS_length] at this; omega)) ?_); have hc : chkT l = if lexS (catS l) = l then 0 else 4 := if_neg (by omega); rw [hc]; by_cases he : lexS (catS l) = l
   ·rw [if_pos he]; exact Ev.pos (decide_eq_true he) (Ev.now _)
   ·rw [if_neg he]; exact Ev.neg (by rw [decide_eq_false he]; decide) (Ev.now _)
 ·obtain ⟨s, hs⟩ := j2 ht; have hc : chkT l = 3 := if_pos (by omega); rw [hc]; refine Ev.bind1 hs (Ev.neg (show ¬ (false = true) by decide) (Ev.shift ?_)); simp only [token_Text.j0]; exact Ev.pos trivial (Ev.now _)
/-- The error of Relex. -/
def chk4 (l : List Tn) (m : List Ed) : Int := if chkT l = 0 then chk (tot l : Nat) m else chkT l
end Go.Proofs.Ytahcpappailjgaa.P

set_option linter.unusedVariables false
set_option linter.unusedSimpArgs false
namespace Go.Proofs.Ytahcpappailjgaa.P
open Go.RowKit Go.Proofs.YtahcpappailjgaaW.PrintWords Go.Proofs.YtahcpappailjgaaW.PrintLast Go.Proofs.YtahcpappailjgaaW.PrintMore
/-- Where the token i begins. -/
def pf (l : List Tn) (i : Nat) : Nat := tot (l.take i)
theorem pf_succ (l : List Tn) (i : Nat) (h : i < l.length) : pf l (i + 1) = pf l i + (l[i]).f1.size := by
 unfold pf; rw [List.take_succ_eq_append_getElem h, tot_append, tot_one]
theorem pf_le (l : List Tn) {i j : Nat} (h : i ≤ j) : pf l i ≤ pf l j := by
 unfold pf
 obtain ⟨d, rfl⟩ : ∃ d, j = i + d := ⟨j - i, by omega⟩
 rw [List.take_add, tot_append]
 omega
theorem pf_all (l : List Tn) {i : Nat} (h : l.length ≤ i) : pf l i = tot l := by unfold pf; rw [List.take_of_length_le h]
theorem pf_tot (l : List Tn) (i : Nat) : pf l i ≤ tot l := by
 rw [← pf_all l (Nat.le_refl _)]; by_cases h : i ≤ l.length
 ·exact pf_le l h
 ·rw [pf_all l (by omega)]; rw [pf_all l (Nat.le_refl _)]; exact Nat.le_refl _
/-- The places at which tokens begin, and the end of the last one. -/
def IsEnds (e : List Int) (l : List Tn) : Prop := e.length = l.length + 1 ∧ ∀ i, i ≤ l.length → e[i]? = some (pf l i : Int)
theorem IsEnds.val {e : List Int} {l : List Tn} (h : IsEnds e l) (i : Nat) (hi : i ≤ l.length) : rd e (i : Int) = (pf l i : Int) := by
 simp [rd, List.getD_eq_getElem?_getD, h.2 i hi]
theorem ends_loop (l : List Tn) (hl : l.length ≤ 100000) (ht : tot l ≤ 100000) : ∀ (d i : Nat) (acc : List Int), i + d = l.length → acc.length = i + 1 → (∀ j, j ≤ i → acc[j]? = some (pf l j : Int)) →
  ∃ e, IsEnds e l ∧ Ev (fun k => relex_ends.l0 k acc (pf l i : Int) l (l.length : Int) (i : Int)) e := by
 intro d
 induction d with
 | zero =>
  intro i acc hi ha hj; refine ⟨acc, ⟨by omega, fun j h => hj j (by omega)⟩, Ev.shift ?_⟩; simp only [relex_ends.l0]; exact Ev.neg (by omega) (Ev.now _)
 | succ d ih =>
  intro i acc hi ha hj
  have hlt : i < l.length := (by omega)
  have hs := pf_succ l i hlt; have hp := pf_tot l (i + 1)
  obtain ⟨e, he, hE⟩ := ih (i + 1) (acc ++ [(pf l (i + 1) : Int)]) (by omega) (by simp [ha]) (by
   intro j hj'; by_cases h : j ≤ i
   ·rw [List.getElem?_append_left (by omega)]; exact hj j h
   ·obtain rfl : j = i + 1 := (by omega)
    rw [List.getElem?_append_right (by omega), ha]
    simp)
  refine ⟨e, he, Ev.shift ?_⟩; simp only [relex_ends.l0]; have hr : rd_T59 l (i : Int) = l[i] := rd_tn (List.drop_eq_getElem_cons hlt); rw [hr]; refine Ev.pos (by omega) (Ev.pos (by omega) (Ev.pos (by omega) (Ev.pos (by omega) ?_))); rw [w64 (n := (i : Int) + 1) (by omega) (by omega), w64 (n := (pf l i : Int) + ((l[i]).f1.size : Int)) (by omega) (by omega), show (pf l i : Int) + ((l[i]).f1.size : Int) = (pf l (i + 1) : Int) by omega]; exact hE
theorem ends_ev (l : List Tn) (hl : l.length ≤ 100000) (ht : tot l ≤ 100000) : ∃ e, IsEnds e l ∧ Ev (fun k => relex_ends.f k l) e := by
 have := ends_loop l hl ht l.length 0 [0] (by omega) rfl (by
  intro j hj
  obtain rfl : j = 0 := (by omega)
  simp [pf, tot])
 simpa [pf, tot, relex_ends.f] using this
/-! ### the search -/
theorem less_eq (a b : Int) : cmp_Less_int.f a b = some (decide (a < b)) := by
 unfold cmp_Less_int.f cmp_isNaN_int.f
 simp
theorem bs_loop (e : List Int) (x : Int) (hz : e.length ≤ 1000000) : ∀ (d lo hi : Nat), hi - lo ≤ d → lo ≤ hi → hi ≤ e.length → (∀ (i : Nat) (v : Int), i < lo → e[i]? = some v → v < x) → (∀ (i : Nat) (v : Int), hi ≤ i → e[i]? = some v → x ≤ v) → (∀ (i j : Nat) (v u : Int), i ≤ j → e[i]? = some v → e[j]? = some u → v ≤ u) →
  ∃ r : Nat, r ≤ e.length ∧ (∀ (i : Nat) (v : Int), i < r → e[i]? = some v → v < x) ∧ (∀ (i : Nat) (v : Int), r ≤ i → e[i]? = some v → x ≤ v) ∧ Ev (fun k => slices_BinarySearch_int_int.l0 k e x (e.length : Int) (lo : Int) (hi : Int)) ((r : Int), decide (e[r]? = some x)) := by
 intro d
 induction d with
 | zero =>
  intro lo hi hd hlo hhi h1 h2 hm
  obtain rfl : lo = hi := (by omega)
  refine ⟨lo, hhi, h1, h2, Ev.shift ?_⟩; simp only [slices_BinarySearch_int_int.l0]; refine Ev.neg (by omega) ?_; by_cases h : lo < e.length
  ·have he : e[lo]? = some e[lo] := List.getElem?_eq_getElem h
   have hr : rd e (lo : Int) = e[lo] := (by simp [rd, List.getD_eq_getElem?_getD, he])
   refine Ev.pos (by omega) (Ev.pos (by omega) (Ev.pos (by omega) ?_)); rw [hr, he]; by_cases hx : e[lo] = x
   ·rw [show decide (some e[lo] = some x) = true from decide_eq_true (by rw [hx])]; exact Ev.pos hx (Ev.now _)
   ·rw [show decide (some e[lo] = some x) = false from decide_eq_false (fun q => hx (by injection q))]; refine Ev.neg hx (Ev.bind1 (a := false) (by unfold slices_isNaN_int.f; simp) (Ev.neg (by decide) (Ev.now _)))
  ·rw [show decide (e[lo]? = some x) = false from decide_eq_false (by rw [List.getElem?_eq_none (by omega)]; intro q; cases q)]; exact Ev.neg (by omega) (Ev.now _)
 | succ d ih =>
  intro lo hi hd hlo hhi h1 h2 hm; by_cases hlt : lo < hi
  ·obtain ⟨m, hmid, hm1, hm2⟩ : ∃ m : Nat, wrap64 (IntKind.u64.wrap (wrap64 ((lo : Int) + (hi : Int))) / 2) = (m : Int) ∧ lo ≤ m ∧ m < hi := by
    refine ⟨(lo + hi) / 2, ?_, by omega, by omega⟩; rw [w64 (n := (lo : Int) + (hi : Int)) (by omega) (by omega), IntWalk.u64_in _ (by omega), w64 (by omega) (by omega)]
    omega
   have hml : m < e.length := (by omega)
   have he : e[m]? = some e[m] := List.getElem?_eq_getElem hml
   have hr : rd e (m : Int) = e[m] := (by simp [rd, List.getD_eq_getElem?_getD, he])
   by_cases hx : e[m] < x
   ·obtain ⟨r, r1, r2, r3, hE⟩ := ih (m + 1) hi (by omega) (by omega) hhi (fun i v hi' hv => by
     have := hm i m v e[m] (by omega) hv he
     omega) h2 hm
    refine ⟨r, r1, r2, r3, Ev.shift ?_⟩; simp only [slices_BinarySearch_int_int.l0]; rw [hmid, hr]; refine Ev.pos (by omega) (Ev.pos (by omega) (Ev.pos (by omega) (Ev.bind1 (less_eq _ _) (Ev.pos (decide_eq_true hx) ?_)))); rw [w64 (n := (m : Int) + 1) (by omega) (by omega)]; exact hE
   ·obtain ⟨r, r1, r2, r3, hE⟩ := ih lo m (by omega) (by omega) (by omega) h1 (fun i v hi' hv => by
     have := hm m i e[m] v hi' he hv
     omega) hm
    refine ⟨r, r1, r2, r3, Ev.shift ?_⟩; simp only [slices_BinarySearch_int_int.l0]; rw [hmid, hr]; refine Ev.pos (by omega) (Ev.pos (by omega) (Ev.pos (by omega) (Ev.bind1 (less_eq _ _) (Ev.neg (by rw [decide_eq_false hx]; decide) ?_)))); exact hE
  ·exact ih lo hi (by omega) hlo hhi h1 h2 hm
/-- Tokens none of which is empty. -/
def Solid (l : List Tn) : Prop := ∀ t ∈ l, 0 < t.f1.size
theorem Solid.lt {l : List Tn} (h : Solid l) {i : Nat} (hi : i < l.length) : pf l i < pf l (i + 1) := by
 rw [pf_succ l i hi]; have := h l[i] (List.getElem_mem hi)
 omega
theorem holding_ev (l : List Tn) (e : List Int) (hl : l.length ≤ 100000) (ht : tot l ≤ 100000) (he : IsEnds e l) (hs : Solid l) (n : Nat) (hn : n < tot l) :
  ∃ h : Nat, h < l.length ∧ pf l h ≤ n ∧ n < pf l (h + 1) ∧ Ev (fun k => relex_holding.f k e (n : Int)) (h : Int) := by
 have hz : e.length = l.length + 1 := he.1
 have hval : ∀ i v, e[i]? = some v → i ≤ l.length ∧ v = (pf l i : Int) := by
  intro i v h; have hi : i < e.length := (List.getElem?_eq_some_iff.1 h).1; have := he.2 i (by omega); rw [h] at this; injection this with this; exact ⟨by omega, this⟩
 obtain ⟨r, r1, r2, r3, hE⟩ := bs_loop e (n : Int) (by omega) e.length 0 e.length (by omega) (by omega) (Nat.le_refl _) (fun i v h => by omega) (fun i v h hv => by have := (List.getElem?_eq_some_iff.1 hv).1; omega) (fun i j v u hij hv hu => by
  have h1 := hval i v hv; have h2 := hval j u hu; have := pf_le l hij
  omega)
 have hB : Ev (fun k => slices_BinarySearch_int_int.f k e (n : Int)) ((r : Int), decide (e[r]? = some (n : Int))) := hE; have hlast := he.2 l.length (Nat.le_refl _); rw [pf_all l (Nat.le_refl _)] at hlast
 have hrl : r ≤ l.length := by
  rcases Nat.lt_or_ge l.length r with h | h
  ·have := r2 l.length _ h hlast
   omega
  ·exact h
 have hr := he.2 r hrl; have hge := r3 r _ (Nat.le_refl _) hr; unfold relex_holding.f; by_cases hx : e[r]? = some (n : Int)
 ·rw [hx] at hr; injection hr with hr
  have hlt : r < l.length := by
   rcases Nat.lt_or_ge r l.length with h | h
   ·exact h
   ·have := pf_all l h; omega
  refine ⟨r, hlt, by omega, by have := hs.lt hlt; omega, Ev.bind hB (Ev.pos (decide_eq_true hx) (Ev.now _))⟩
 ·have hne : (pf l r : Int) ≠ (n : Int) := fun q => hx (by rw [hr, q])
  have h0 : 0 < r := by
   rcases Nat.eq_zero_or_pos r with h | h
   ·subst h
    have : pf l 0 = 0 := (by simp [pf, tot])
    omega
   ·exact h
  have hp := r2 (r - 1) _ (by omega) (he.2 (r - 1) (by omega)); refine ⟨r - 1, by omega, by omega, by rw [show r - 1 + 1 = r by omega]; omega, Ev.bind hB (Ev.neg (by rw [decide_eq_false hx]; exact Bool.false_ne_true) ?_)⟩; simp only; rw [w64 (by omega) (by omega), show (r : Int) - 1 = ((r - 1 : Nat) : Int) by omega]; exact Ev.now _
/-! ### line feeds -/
theorem last_nl (s : ByteArray) (F : Nat) (hF : F ≤ s.size) :
  (Lib.lastIndexByte (s.extract 0 F) 10 = -1 ∧ ∀ j, j < F → s.data.toList[j]? ≠ some 10) ∨ (∃ n : Nat, n < F ∧ Lib.lastIndexByte (s.extract 0 F) 10 = (n : Int) ∧ s.data.toList[n]? = some 10 ∧ ∀ j, n < j → j < F → s.data.toList[j]? ≠ some 10) := by
 have hz : (s.extract 0 F).size = F := (by rw [ByteArray.size_extract]; omega)
 have hB : ∀ j, j < F → ((((s.extract 0 F).data[j]!).toNat : Int) = 10 ↔ s.data.toList[j]? = some 10) := by
  intro j hj
  have h1 : j < s.data.toList.length := (by rw [Ut.size_data]; omega)
  have h2 : j < (s.extract 0 F).data.size := by
   have : (s.extract 0 F).data.size = (s.extract 0 F).size := rfl
   omega
  have e : (s.extract 0 F).data[j]! = s.data.toList[j] := by
   rw [getElem!_pos _ j h2]
   simp [ByteArray.data_extract]
  rw [e, List.getElem?_eq_getElem h1]
  constructor
  ·intro h; rw [(byte_int s.data.toList[j] 10 (by decide)).1 h]; rfl
  ·intro h; injection h with h; rw [h]; rfl
 have h := Lib.lastIndexByte_spec (s.extract 0 F) 10; rw [hz] at h
 rcases h with ⟨h1, h2⟩ | ⟨i, h1, h2, h3, h4⟩
 ·exact .inl ⟨h1, fun j hj e => h2 j hj ((hB j hj).2 e)⟩
 ·exact .inr ⟨i, h1, h2, (hB i h1).1 h3, fun j hj hj2 e => h4 j hj hj2 ((hB j hj2).2 e)⟩
theorem idx_nl : ∀ (l : Bs), (Lib.indexByte l 10 = -1 ∧ ∀ j : Nat, l[j]? ≠ some 10) ∨ (∃ n : Nat, Lib.indexByte l 10 = (n : Int) ∧ l[n]? = some 10 ∧ ∀ j, j < n → l[j]? ≠ some 10)
 | [] => .inl ⟨rfl, fun j e => by simp at e⟩
 | c :: r => by
  rw [Lib.indexByte]; by_cases hc : c = 10
  ·right
   rw [if_pos (by rw [hc]; rfl)]; exact ⟨0, rfl, by rw [hc]; rfl, fun j hj => by omega⟩
  ·rw [if_neg (by simpa using hc)]
   rcases idx_nl r with ⟨e, hn⟩ | ⟨n, e, hn, hj⟩
   ·left
    rw [e]; refine ⟨rfl, fun j q => ?_⟩
    cases j with
    | zero => simp at q; exact hc q
    | succ j => exact hn j (by simpa using q)
   ·right
    rw [e]; have : ((n : Int) == -1) = false := beq_eq_false_iff_ne.2 (by omega); refine ⟨n + 1, ?_, by simpa using hn, fun j hjn q => ?_⟩
    ·simp only [this]
     simp
    ·cases j with
     | zero => simp at q; exact hc q
     | succ j => exact hj j (by omega) (by simpa using q)
theorem index_nl (s : ByteArray) (T : Nat) (hT : T ≤ s.size) :
  (strings_IndexByte.f (s.extract T s.size) 10 = some (-1) ∧ ∀ j, T ≤ j → s.data.toList[j]? ≠ some 10) ∨ (∃ n : Nat, T ≤ n ∧ n < s.size ∧ strings_IndexByte.f (s.extract T s.size) 10 = some ((n : Int) - (T : Int)) ∧ s.data.toList[n]? = some 10 ∧ ∀ j, T ≤ j → j < n → s.data.toList[j]? ≠ some 10) := by
 have e0 : strings_IndexByte.f (s.extract T s.size) 10 = some (Lib.indexByte (s.data.toList.drop T) 10) := by
  unfold strings_IndexByte.f; rw [ext_suf]; rfl
 rw [e0]
 rcases idx_nl (s.data.toList.drop T) with ⟨e, hn⟩ | ⟨n, e, hn, hj⟩
 ·left
  rw [e]; refine ⟨rfl, fun j hj q => hn (j - T) ?_⟩; rw [List.getElem?_drop, show T + (j - T) = j by omega]; exact q
 ·right
  rw [List.getElem?_drop] at hn; have hlt := (List.getElem?_eq_some_iff.1 hn).1; rw [isize] at hlt; rw [e]; refine ⟨T + n, by omega, hlt, by congr 1; omega, hn, fun j h1 h2 q => hj (j - T) (by omega) ?_⟩; rw [List.getElem?_drop, show T + (j - T) = j by omega]; exact q
end Go.Proofs.Ytahcpappailjgaa.P

set_option linter.unusedVariables false
set_option linter.unusedSimpArgs false
namespace Go.Proofs.Ytahcpappailjgaa.P
open Go.RowKit Go.Proofs.YtahcpappailjgaaW.PrintWords Go.Proofs.YtahcpappailjgaaW.PrintLast Go.Proofs.YtahcpappailjgaaW.PrintMore
theorem cutS_end (s : ByteArray) (a : Int) : cutS s a s.size = s.data.toList.drop a.toNat := by
 rw [cutS_eq, Int.toNat_natCast, List.take_of_length_le (by rw [isize]; exact Nat.le_refl _)]
theorem app_end (s : ByteArray) : ∀ (r : List Ed) (e : Ed) (p : Int), sp s.size p (e :: r) = true → 0 ≤ p → ∃ (M : Bs) (f : Ed), (e :: r).getLast? = some f ∧ app s p (e :: r) = cutS s p e.f0 ++ (M ++ s.data.toList.drop f.f1.toNat) ∧ e.f0 ≤ f.f1 ∧ f.f1 ≤ s.size
 | [], e, p, h, h0 => by
  obtain ⟨h1, h2, h3, h4⟩ := sp_cons h; refine ⟨e.f2.data.toList, e, rfl, ?_, h2, h3⟩; rw [app, app, cutS_end, List.append_assoc]
 | e' :: r, e, p, h, h0 => by
  obtain ⟨h1, h2, h3, h4⟩ := sp_cons h; obtain ⟨M, f, hf, ha, hf1, hf2⟩ := app_end s r e' e.f1 h4 (by omega); obtain ⟨g1, _⟩ := sp_cons h4; refine ⟨e.f2.data.toList ++ (cutS s e.f1 e'.f0 ++ M), f, by rw [List.getLast?_cons_cons]; exact hf, ?_, by omega, hf2⟩; rw [app, ha]; simp only [List.append_assoc]
theorem app_split (s : ByteArray) (e : Ed) (r : List Ed) (h : sp s.size 0 (e :: r) = true) : ∃ (M : Bs) (f : Ed), (e :: r).getLast? = some f ∧ app s 0 (e :: r) = s.data.toList.take e.f0.toNat ++ (M ++ s.data.toList.drop f.f1.toNat) ∧ 0 ≤ e.f0 ∧ e.f0 ≤ f.f1 ∧ f.f1 ≤ s.size := by
 obtain ⟨M, f, hf, ha, h1, h2⟩ := app_end s r e 0 h (Int.le_refl _); obtain ⟨g1, _⟩ := sp_cons h; refine ⟨M, f, hf, ?_, g1, h1, h2⟩; rw [ha, cutS_eq]
 simp
theorem split_at {α : Type} {l : List α} {i : Nat} (h : i < l.length) : l = l.take i ++ l[i] :: l.drop (i + 1) := by
 rw [List.getElem_cons_drop, List.take_append_drop]
theorem at_split {α : Type} {l : List α} {n : Nat} {x : α} (h : l[n]? = some x) : l = l.take n ++ x :: l.drop (n + 1) := by
 obtain ⟨hn, e⟩ := List.getElem?_eq_some_iff.1 h; subst e; exact split_at hn
/-! ### tokens of both forms -/
theorem map_un (l : List Tk) : (l.map mkS).map unS = l := by
 rw [List.map_map]
 conv => rhs; rw [← List.map_id l]
 exact List.map_congr_left (fun t _ => un_mk t)
theorem map_mk (l : List Tn) : (l.map unS).map mkS = l := by
 rw [List.map_map]
 conv => rhs; rw [← List.map_id l]
 exact List.map_congr_left (fun t _ => mk_un t)
theorem lex_of (l : List Tn) (h : lexS (catS l) = l) : lex (catS l) = l.map unS := by
 conv => rhs; rw [← h]
 rw [lexS, map_un]
theorem cat_un (l : List Tn) : cat (l.map unS) = catS l := by
 unfold cat catS; rw [List.map_map]; rfl
theorem cat_pf (l : List Tn) (i : Nat) : (cat ((l.take i).map unS)).length = pf l i := by rw [cat_un, catS_length]; rfl
theorem cat_suf (l : List Tn) (i : Nat) : (cat ((l.drop i).map unS)).length = tot l - pf l i := by
 rw [cat_un, catS_length]
 have : tot l = tot (l.take i) + tot (l.drop i) := (by rw [← tot_append, List.take_append_drop])
 unfold pf
 omega
theorem solid_of (l : List Tn) (h : lexS (catS l) = l) : Solid l := by
 intro t ht; rw [← h] at ht; obtain ⟨u, hu, rfl⟩ := List.mem_map.1 ht; have := lex_pos _ u hu
 show 0 < (ba u.2).size
 rw [ba_size]
 cases e : u.2 with
 | nil => exact absurd e this
 | cons c r => simp
theorem split_un (l : List Tn) (i : Nat) (h : i < l.length) : l.map unS = (l.take i).map unS ++ unS l[i] :: (l.drop (i + 1)).map unS := by
 conv => lhs; rw [split_at h]
 rw [List.map_append, List.map_cons]
theorem cut_nl {T : Bs} {n : Nat} (h : T[n]? = some 10) : T = T.take n ++ 10 :: T.drop (n + 1) := at_split h
theorem front_at (l : List Tn) (h : lexS (catS l) = l) (i n F : Nat) (hi : i < l.length) (hn : (catS l)[n]? = some 10) (hF : n < F) (h1 : pf l i ≤ n) (h2 : n < pf l (i + 1)) : Front ((catS l).take F) ((l.take i).map unS) := by
 have hlt := (List.getElem?_eq_some_iff.1 hn).1
 have hl : ((catS l).take n).length = n := (by rw [List.length_take]; omega)
 have := front_of (T := catS l) (P := (catS l).take n) (Z := (catS l).drop (n + 1)) (u := (l.take i).map unS) (t := unS l[i]) (v := (l.drop (i + 1)).map unS) (by rw [lex_of l h]; exact split_un l i hi) (cut_nl hn) (by rw [cat_pf, hl]; exact h1)
  (by rw [cat_pf, hl]; have := pf_succ l i hi; have e : (unS l[i]).2.length = (l[i]).f1.size := isize _; omega) (((catS l).drop (n + 1)).take (F - (n + 1)))
 have e : (catS l).take F = (catS l).take n ++ 10 :: ((catS l).drop (n + 1)).take (F - (n + 1)) := by
  conv => lhs; rw [cut_nl hn]
  rw [List.take_append, hl, List.take_of_length_le (by omega : ((catS l).take n).length ≤ F)]
  congr 1
  rw [show F - n = (F - (n + 1)) + 1 by omega, List.take_succ_cons]
 rw [e]; exact this
theorem back_at (l : List Tn) (h : lexS (catS l) = l) (i n To : Nat) (hi : i < l.length) (hn : (catS l)[n]? = some 10) (hT : To ≤ n) (h1 : pf l i ≤ n) (h2 : n < pf l (i + 1)) : Back ((catS l).drop To) ((l.drop (i + 1)).map unS) := by
 have hlt := (List.getElem?_eq_some_iff.1 hn).1
 have hl : ((catS l).take n).length = n := (by rw [List.length_take]; omega)
 have := back_of (T := catS l) (P := (catS l).take n) (Z := (catS l).drop (n + 1)) (u := (l.take i).map unS) (t := unS l[i]) (v := (l.drop (i + 1)).map unS) (by rw [lex_of l h]; exact split_un l i hi) (cut_nl hn) (by rw [cat_pf, hl]; exact h1)
  (by rw [cat_pf, hl]; have := pf_succ l i hi; have e : (unS l[i]).2.length = (l[i]).f1.size := isize _; omega) (((catS l).take n).drop To)
 have e : (catS l).drop To = ((catS l).take n).drop To ++ 10 :: (catS l).drop (n + 1) := by
  conv => lhs; rw [cut_nl hn]
  rw [List.drop_append_of_le_length (by omega)]
 rw [e]; exact this
theorem catS_map (L : List Tk) : catS (L.map mkS) = cat L := by
 unfold catS cat; rw [List.map_map]
 congr 1
theorem catS_lexS (T : Bs) : catS (lexS T) = T := by
 rw [lexS, catS_map, cat_lex T.length T (Nat.le_refl _)]
theorem tot_lexS (T : Bs) : tot (lexS T) = T.length := by rw [← catS_length, catS_lexS]
theorem chkT_lexS (T : Bs) (h : T.length ≤ 20000) : chkT (lexS T) = 0 := by
 have := lexS_length T; unfold chkT; rw [tot_lexS, catS_lexS, if_neg (by omega), if_pos rfl]
theorem chk4_lexS (T : Bs) (h : T.length ≤ 20000) (m : List Ed) : chk4 (lexS T) m = chk (T.length : Nat) m := by
 unfold chk4; rw [if_pos (chkT_lexS T h), tot_lexS]
theorem fine_lexS (T : Bs) (h : T.length ≤ 20000) : Fine3 (lexS T) := ⟨by have := lexS_length T; omega, by rw [tot_lexS]; omega⟩
/-- What Relex returns. -/
structure RxOk (l : List Tn) (m : List Ed) (n : List Tn) (a b : Nat) : Prop where
 toks : n = lexS (app (ba (catS l)) 0 m)
 le1 : a + b ≤ l.length
 le2 : a + b ≤ n.length
 pre : n.take a = l.take a
 suf : n.drop (n.length - b) = l.drop (l.length - b)
 nil : m = [] → a = l.length ∧ b = 0
 fst : ∀ e r, m = e :: r → ∀ j : Nat, (j : Int) < e.f0 → (catS l)[j]? = some 10 → j < pf l (a + 1)
 lst : ∀ e, m = [e] → ∀ j : Nat, e.f1 ≤ (j : Int) → (catS l)[j]? = some 10 → pf l (l.length - b - 1) ≤ j
/-- The end of Relex, once it is known which tokens are kept. -/
theorem rx_tail (l : List Tn) (m : List Ed) (e : Ed) (r : List Ed) (f : Ed) (M : Bs) (E : List Int) (a c : Nat) (hm : m = e :: r) (hlast : m.getLast? = some f) (hl : l.length ≤ 20001) (ht : tot l ≤ 20001) (hE : IsEnds E l)
  (happ : app (ba (catS l)) 0 m = (catS l).take e.f0.toNat ++ (M ++ (catS l).drop f.f1.toNat)) (hx : (app (ba (catS l)) 0 m).length ≤ 20000) (hc : c ≤ l.length) (hac : a ≤ c)
  (hP : Front ((catS l).take e.f0.toNat) ((l.take a).map unS)) (hQ : Back ((catS l).drop f.f1.toNat) ((l.drop c).map unS))
  (h1 : ∀ j : Nat, (j : Int) < e.f0 → (catS l)[j]? = some 10 → j < pf l (a + 1)) (h2 : ∀ j : Nat, f.f1 ≤ (j : Int) → (catS l)[j]? = some 10 → pf l (c - 1) ≤ j) :
  ∃ n mid, RxOk l m n a (l.length - c) ∧ pf l a + (tot l - pf l c) ≤ (app (ba (catS l)) 0 m).length ∧
   Ev (fun k => token_Lex.f k ((ba (app (ba (catS l)) 0 m)).extract (pf l a) ((app (ba (catS l)) 0 m).length - (tot l - pf l c)))) (mid, 0) ∧ api_Token_36.f [l.take a, mid, l.drop c] = some n := by
 have hcl := pf_tot l c; have hcv := cat_suf l c; have hcu := cat_pf l a; have key := front_back hP hQ M; rw [← happ, hcu, hcv] at key; have hP1 := hP.1; have hQ1 := hQ.1
 have hlen : (app (ba (catS l)) 0 m).length = ((catS l).take e.f0.toNat).length + (M.length + ((catS l).drop f.f1.toNat).length) := (by rw [happ, List.length_append, List.length_append])
 generalize hA : app (ba (catS l)) 0 m = A at *
 have hle : pf l a + (tot l - pf l c) ≤ A.length := (by omega)
 have hmid : ((ba A).extract (pf l a) (A.length - (tot l - pf l c))).data.toList = (A.take (A.length - (tot l - pf l c))).drop (pf l a) := by
  rw [ext_list, ba_data, List.drop_take]
 have hms : ((ba A).extract (pf l a) (A.length - (tot l - pf l c))).size ≤ 20000 := (by rw [ByteArray.size_extract, ba_size]; omega)
 have hLex := Lex_ev ((ba A).extract (pf l a) (A.length - (tot l - pf l c))) (by omega); rw [if_neg (by omega), hmid] at hLex
 have hn : lexS A = l.take a ++ (lexS ((A.take (A.length - (tot l - pf l c))).drop (pf l a)) ++ l.drop c) := by
  rw [lexS, key, List.map_append, List.map_append, map_mk, map_mk]; rfl
 have hml := lexS_length ((A.take (A.length - (tot l - pf l c))).drop (pf l a)); rw [List.length_drop, List.length_take] at hml; generalize lexS ((A.take (A.length - (tot l - pf l c))).drop (pf l a)) = mid at *
 have hta : (l.take a).length = a := (by rw [List.length_take]; omega)
 have htc : (l.drop c).length = l.length - c := List.length_drop
 have hnl : (lexS A).length = a + (mid.length + (l.length - c)) := (by rw [hn, List.length_append, List.length_append, hta, htc])
 refine ⟨lexS A, mid, ⟨by rw [hA], by omega, by omega, ?_, ?_, fun h => (by rw [hm] at h; cases h), ?_, ?_⟩, hle, hLex, ?_⟩
 ·rw [hn, List.take_left' hta]
 ·rw [show l.length - (l.length - c) = c by omega, hnl, hn, ← List.append_assoc, List.drop_left']; rw [List.length_append, hta]
  omega
 ·intro e' r' h; rw [hm] at h; injection h with h _; subst h; exact h1
 ·intro e' h j hj hj2
  have hf : f = e' := by
   rw [h] at hlast; injection hlast with hlast; exact hlast.symm
  subst hf; have := h2 j hj hj2
  rwa [show l.length - (l.length - c) - 1 = c - 1 by omega]
 ·unfold api_Token_36.f
  have ef : [l.take a, mid, l.drop c].flatten = lexS A := (by rw [hn]; simp)
  rw [ef, if_pos]; refine ⟨by simp, ?_⟩; rw [hnl]
  omega
theorem rx_j0 (l : List Tn) (m : List Ed) (e : Ed) (r : List Ed) (E : List Int) (a : Nat) (hm : m = e :: r) (hk : lexS (catS l) = l) (hl : l.length ≤ 20001) (ht : tot l ≤ 20001) (hE : IsEnds E l) (hlm : m.length ≤ 102)
  (hsp : sp (tot l : Nat) 0 m = true) (hx : (app (ba (catS l)) 0 m).length ≤ 20000) (ha : a = 0 ∨ ∃ n : Nat, (n : Int) < e.f0 ∧ n < pf l (a + 1) ∧ pf l a ≤ n ∧ a < l.length)
  (hP : Front ((catS l).take e.f0.toNat) ((l.take a).map unS)) (h1 : ∀ j : Nat, (j : Int) < e.f0 → (catS l)[j]? = some 10 → j < pf l (a + 1)) :
  ∃ n b, RxOk l m n a b ∧ Ev (fun k => relex_Relex.j0 k l m (ba (catS l)) (ba (app (ba (catS l)) 0 m)) E (a : Int)) (n, (a : Int), (b : Int), 0) := by
 have hs := solid_of l hk
 have hsz : (ba (catS l)).size = tot l := (by rw [ba_size, catS_length])
 have hsp' : sp (ba (catS l)).size 0 (e :: r) = true := (by rw [hsz, ← hm]; exact hsp)
 obtain ⟨M, f, hlast, happ, f0, f1, f2⟩ := app_split (ba (catS l)) e r hsp'; rw [ba_data, ← hm] at happ; rw [← hm] at hlast; rw [hsz] at f2
 have hm0 : 0 < m.length := (by rw [hm]; simp)
 have hji : wrap64 ((m.length : Int) - 1) = ((m.length - 1 : Nat) : Int) := (by rw [w64 (by omega) (by omega)]; omega)
 have hrd : rd_T39 m ((m.length - 1 : Nat) : Int) = f := by
  apply rd_at (r := [])
  rw [List.getLast?_eq_getElem?] at hlast; rw [List.drop_eq_getElem_cons (by omega), List.drop_of_length_le (by omega)]; rw [List.getElem?_eq_getElem (by omega)] at hlast; injection hlast with hlast; rw [hlast]
 have hz : E.length = l.length + 1 := hE.1
 obtain ⟨To, hTo⟩ : ∃ To : Nat, f.f1 = (To : Int) := ⟨f.f1.toNat, by omega⟩
 have hToN : f.f1.toNat = To := (by omega)
 have hxs : (ba (app (ba (catS l)) 0 m)).size = (app (ba (catS l)) 0 m).length := ba_size _
 have hal : a ≤ l.length := by
  rcases ha with ha | ⟨n, _, _, _, ha⟩ <;> omega
 have hpa := pf_tot l a
 rcases index_nl (ba (catS l)) To (by omega) with ⟨hidx, hno⟩ | ⟨n, hn1, hn2, hidx, hnl, hno⟩
 ·rw [ba_data] at hno
  have hQ : Back ((catS l).drop f.f1.toNat) ((l.drop l.length).map unS) := (by rw [List.drop_length]; exact back_nil _)
  obtain ⟨n', mid, hok, hle, hLex, hcon⟩ := rx_tail l m e r f M E a l.length hm hlast hl ht hE happ hx (Nat.le_refl _) hal hP hQ h1 (fun j hj hj2 => absurd hj2 (hno j (by omega))); rw [pf_all l (Nat.le_refl _)] at hle hLex; refine ⟨n', l.length - l.length, hok, Ev.shift ?_⟩; simp only [relex_Relex.j0]; rw [hji, hrd, hTo]; simp only [hsz, Int.toNat_natCast]; rw [hsz] at hidx; have r1 := hE.val a hal; have r2 := hE.val l.length (Nat.le_refl _); rw [pf_all l (Nat.le_refl _)] at r2; rw [r1, r2, hxs, w64 (n := (tot l : Int) - (tot l : Int)) (by omega) (by omega), w64 (n := ((app (ba (catS l)) 0 m).length : Int) - ((tot l : Int) - (tot l : Int))) (by omega) (by omega)]; refine Ev.pos (by omega) (Ev.pos (by omega) (Ev.pos (by omega) (Ev.pos (by omega) (Ev.bind1 hidx (Ev.neg (by omega) ?_))))); refine Ev.pos (by omega) (Ev.pos (by omega) (Ev.pos (by omega) (Ev.pos (by omega) (Ev.pos (by omega) (Ev.pos (by omega) (Ev.pos (by omega) ?_)))))); rw [show (((app (ba (catS l)) 0 m).length : Int) - ((tot l : Int) - (tot l : Int))).toNat = (app (ba (catS l)) 0 m).length - (tot l - tot l) by omega]; refine Ev.bind hLex (Ev.pos (by omega) (Ev.pos (by omega) (Ev.bind1 hcon ?_))); rw [w64 (by omega) (by omega), show (l.length : Int) - (l.length : Int) = ((l.length - l.length : Nat) : Int) by omega]; exact Ev.now _
 ·rw [ba_data] at hno hnl; rw [hsz] at hn2; obtain ⟨h, hh1, hh2, hh3, hH⟩ := holding_ev l E (by omega) (by omega) hE hs n hn2; have hQ : Back ((catS l).drop f.f1.toNat) ((l.drop (h + 1)).map unS) := back_at l hk h n f.f1.toNat hh1 hnl (by omega) hh2 hh3
  have hah : a ≤ h + 1 := by
   rcases ha with ha | ⟨n0, ha1, ha2, ha3, ha4⟩
   ·omega
   ·rcases Nat.lt_or_ge (h + 1) a with hlt | hge
    ·have := pf_le l (show h + 1 ≤ a by omega)
     omega
    ·exact hge
  obtain ⟨n', mid, hok, hle, hLex, hcon⟩ := rx_tail l m e r f M E a (h + 1) hm hlast hl ht hE happ hx (by omega) hah hP hQ h1 (fun j hj hj2 => by
   rw [show h + 1 - 1 = h by omega]
   rcases Nat.lt_or_ge j n with hjn | hjn
   ·exact absurd hj2 (hno j (by omega) hjn)
   ·omega)
  refine ⟨n', l.length - (h + 1), hok, Ev.shift ?_⟩; simp only [relex_Relex.j0]; rw [hji, hrd, hTo]; simp only [hsz, Int.toNat_natCast]; rw [hsz] at hidx; have hpk := pf_tot l (h + 1); have r1 := hE.val a hal; have r2 := hE.val (h + 1) (by omega); refine Ev.pos (by omega) (Ev.pos (by omega) (Ev.pos (by omega) (Ev.pos (by omega) (Ev.bind1 hidx (Ev.pos (by omega) ?_))))); rw [w64 (n := (To : Int) + ((n : Int) - (To : Int))) (by omega) (by omega), show (To : Int) + ((n : Int) - (To : Int)) = (n : Int) by omega]; refine Ev.bind hH ?_; rw [w64 (n := (h : Int) + 1) (by omega) (by omega), show (h : Int) + 1 = ((h + 1 : Nat) : Int) from rfl, r1, r2, hxs, w64 (n := (tot l : Int) - (pf l (h + 1) : Int)) (by omega) (by omega), w64 (n := ((app (ba (catS l)) 0 m).length : Int) - ((tot l : Int) - (pf l (h + 1) : Int))) (by omega) (by omega)]; refine Ev.pos (by omega) (Ev.pos (by omega) (Ev.pos (by omega) (Ev.pos (by omega) (Ev.pos (by omega) (Ev.pos (by omega) (Ev.pos (by omega) ?_)))))); rw [show (((app (ba (catS l)) 0 m).length : Int) - ((tot l : Int) - (pf l (h + 1) : Int))).toNat = (app (ba (catS l)) 0 m).length - (tot l - pf l (h + 1)) by omega]; simp only [Int.toNat_natCast]; refine Ev.bind hLex (Ev.pos (by omega) (Ev.pos (by omega) (Ev.bind1 hcon ?_))); rw [w64 (by omega) (by omega), show (l.length : Int) - ((h + 1 : Nat) : Int) = ((l.length - (h + 1) : Nat) : Int) by omega]; exact Ev.now _
theorem Relex_ev (l : List Tn) (m : List Ed) (hf : Fine3 l) (hm : Fit m) (hc : chk4 l m = 0) : ∃ n a b, RxOk l m n a b ∧ Ev (fun k => relex_Relex.f k l m) (n, (a : Int), (b : Int), 0) := by
 obtain ⟨h1, h2⟩ := hf
 have hT : chkT l = 0 := by
  unfold chk4 at hc; by_cases h : chkT l = 0
  ·exact h
  ·rw [if_neg h] at hc; exact absurd hc h
 have hM : chk (tot l : Nat) m = 0 := by
  unfold chk4 at hc
  rwa [if_pos hT] at hc
 obtain ⟨t1, t2, t3⟩ := chkT_ok hT; obtain ⟨c1, c2, c3, c4⟩ := chk_ok hM; have hs := solid_of l t3
 have hsz : (ba (catS l)).size = tot l := (by rw [ba_size, catS_length])
 have hTx := Text_ev l ⟨h1, h2⟩; simp only [hT, if_true] at hTx; have hAp := apply_ev (ba (catS l)) m (by omega) hm; rw [hsz, if_pos hM, hM] at hAp; have hal := app_length (ba (catS l)) m 0 (by rw [hsz]; exact c3) (Int.le_refl _) (by omega); rw [hsz] at hal
 have hx : (app (ba (catS l)) 0 m).length ≤ 20000 := (by omega)
 unfold relex_Relex.f
 cases m with
 | nil =>
  have happ : app (ba (catS l)) 0 [] = catS l := by
   rw [app, cutS_end, ba_data]; rfl
  refine ⟨l, l.length, 0, ⟨by rw [happ, t3], by omega, by omega, rfl, rfl, fun _ => ⟨rfl, rfl⟩, fun e r h => (by cases h), fun e h => (by cases h)⟩, ?_⟩; refine Ev.bind hTx (Ev.pos rfl (Ev.bind hAp (Ev.pos rfl (Ev.pos rfl (Ev.bind1 (a := l) ?_ (Ev.now _)))))); unfold api_Token_31.f; rw [if_pos (by omega)]
 | cons e r =>
  obtain ⟨g1, g2, g3, g4⟩ := sp_cons c3; have hrd : rd_T39 (e :: r) 0 = e := rfl; obtain ⟨E, hE, hEE⟩ := ends_ev l (by omega) (by omega)
  obtain ⟨F, hF⟩ : ∃ F : Nat, e.f0 = (F : Int) := ⟨e.f0.toNat, by omega⟩
  have hFN : e.f0.toNat = F := (by omega)
  have hlm : (e :: r).length ≤ 102 := (by omega)
  have hlen : ((e :: r).length : Int) = (r.length : Int) + 1 := (by simp)
  rcases last_nl (ba (catS l)) F (by omega) with ⟨hidx, hno⟩ | ⟨n, hn1, hidx, hnl, hno⟩
  ·rw [ba_data] at hno; have hP : Front ((catS l).take e.f0.toNat) ((l.take 0).map unS) := front_nil _; obtain ⟨n, b, hok, hj⟩ := rx_j0 l (e :: r) e r E 0 rfl t3 h1 h2 hE hlm c3 hx (.inl rfl) hP (fun j hj hj2 => absurd hj2 (hno j (by omega))); refine ⟨n, 0, b, hok, ?_⟩; refine Ev.bind hTx (Ev.pos rfl (Ev.bind hAp (Ev.pos rfl (Ev.neg (by omega) (Ev.bind hEE (Ev.pos (by omega) ?_)))))); rw [hrd, hF]; simp only [hsz, Int.toNat_natCast]; refine Ev.pos (by omega) (Ev.pos (by omega) (Ev.bind1 (a := -1) (by unfold strings_LastIndexByte.f; rw [if_pos (by rw [ByteArray.size_extract]; omega), hidx]) (Ev.neg (by decide) hj)))
  ·rw [ba_data] at hno hnl
   have hnt : n < tot l := (by omega)
   obtain ⟨h, hh1, hh2, hh3, hH⟩ := holding_ev l E (by omega) (by omega) hE hs n hnt; have hP : Front ((catS l).take e.f0.toNat) ((l.take h).map unS) := front_at l t3 h n e.f0.toNat hh1 hnl (by omega) hh2 hh3
   obtain ⟨n', b, hok, hj⟩ := rx_j0 l (e :: r) e r E h rfl t3 h1 h2 hE hlm c3 hx (.inr ⟨n, by omega, hh3, hh2, hh1⟩) hP (fun j hj hj2 => by
    rcases Nat.lt_or_ge n j with hjn | hjn
    ·exact absurd hj2 (hno j hjn (by omega))
    ·omega)
   refine ⟨n', h, b, hok, ?_⟩; refine Ev.bind hTx (Ev.pos rfl (Ev.bind hAp (Ev.pos rfl (Ev.neg (by omega) (Ev.bind hEE (Ev.pos (by omega) ?_)))))); rw [hrd, hF]; simp only [hsz, Int.toNat_natCast]; refine Ev.pos (by omega) (Ev.pos (by omega) (Ev.bind1 (a := (n : Int)) (by unfold strings_LastIndexByte.f; rw [if_pos (by rw [ByteArray.size_extract]; omega), hidx]) (Ev.pos (by omega) (Ev.bind hH hj))))
end Go.Proofs.Ytahcpappailjgaa.P

set_option linter.unusedVariables false
namespace Go.Proofs.Ytahcpappailjgaa.P
open Go.RowKit Go.Proofs.YtahcpappailjgaaW.PrintWords Go.Proofs.YtahcpappailjgaaW.PrintLast Go.Proofs.YtahcpappailjgaaW.PrintMore
theorem alive_ev : Ev (fun k => marginalialaw04_alive.f k) true := Ev.of marginalialaw04_alive.mono (k := 60) (by kernel_rfl)
end Go.Proofs.Ytahcpappailjgaa.P

set_option linter.unusedVariables false
set_option linter.unusedSimpArgs false
namespace Go.Proofs.Ytahcpappailjgaa.P
open Go.RowKit Go.Proofs.YtahcpappailjgaaW.PrintWords Go.Proofs.YtahcpappailjgaaW.PrintLast Go.Proofs.YtahcpappailjgaaW.PrintMore
theorem ext_listB (s : ByteArray) (a b : Nat) : (s.extract a b).data.toList = (s.data.toList.take b).drop a := by
 simp [ByteArray.data_extract, Array.toList_extract, List.extract_eq_take_drop, List.drop_take]
theorem inv_sp (s : ByteArray) (m : Int) : ∀ (l : List Ed) (p b : Int), sp s.size p l = true → 0 ≤ p → p ≤ s.size → m = s.size + b - spanSum l + newSum l → sp m (p + b) (inv s b l) = true
 | [], _, _, _, _, _, _ => rfl
 | e :: r, p, b, h, hp, hq, hm => by
  obtain ⟨h1, h2, h3, h4⟩ := sp_cons h; have ih := inv_sp s m r e.f1 (b + grow e) h4 (by omega) (by omega) (by rw [spanSum_cons, newSum_cons] at hm; unfold grow; omega); have h5 := span_le h4 (by omega); rw [spanSum_cons, newSum_cons] at hm
  have e1 : e.f0 + b + (e.f2.size : Int) = e.f1 + (b + grow e) := (by unfold grow; omega)
  simp only [inv, sp, Bool.and_eq_true, decide_eq_true_eq]; refine ⟨by omega, by omega, by omega, ?_⟩; rw [e1]; exact ih
theorem inv_sums (s : ByteArray) : ∀ (l : List Ed) (p b : Int), sp s.size p l = true → 0 ≤ p → p ≤ s.size → spanSum (inv s b l) = newSum l ∧ (newSum (inv s b l) : Int) = spanSum l
 | [], _, _, _, _, _ => by simp [inv, spanSum, newSum]
 | e :: r, p, b, h, hp, hq => by
  obtain ⟨h1, h2, h3, h4⟩ := sp_cons h; obtain ⟨i1, i2⟩ := inv_sums s r e.f1 (b + grow e) h4 (by omega) (by omega)
  have hz : (s.extract e.f0.toNat e.f1.toNat).size = e.f1.toNat - e.f0.toNat := (by rw [ByteArray.size_extract]; omega)
  simp only [inv]; rw [spanSum_cons, newSum_cons, spanSum_cons, newSum_cons, i1]
  constructor
  ·push_cast; omega
  ·push_cast
   rw [i2, hz]
   omega
theorem cutS_at (s t : ByteArray) (q : Int) (x : List UInt8) (y : List UInt8) (hq : 0 ≤ q) (h : t.data.toList.drop q.toNat = x ++ y) : cutS t q (q + x.length) = x := by
 rw [cutS_eq, List.drop_take, h]
 have : (q + x.length).toNat - q.toNat = x.length := (by omega)
 rw [this]
 simp
theorem inv_app (s t : ByteArray) : ∀ (l : List Ed) (p b : Int), sp s.size p l = true → 0 ≤ p → p ≤ s.size → 0 ≤ p + b → t.data.toList.drop (p + b).toNat = app s p l → app t (p + b) (inv s b l) = s.data.toList.drop p.toNat ∧ inv t (-b) (inv s b l) = l
 | [], p, b, h, hp, hq, hb, ht => by
  refine ⟨?_, rfl⟩; simp only [inv, app]; rw [cutS_eq, List.take_of_length_le (by rw [Ut.size_data]; omega), ht]; simp only [app]; rw [cutS_eq, List.take_of_length_le (by rw [Ut.size_data]; omega)]
 | e :: r, p, b, h, hp, hq, hb, ht => by
  obtain ⟨h1, h2, h3, h4⟩ := sp_cons h; simp only [app] at ht
  have l1 : ((cutS s p e.f0).length : Int) = e.f0 - p := (by rw [cutS_length]; omega)
  have l2 : (e.f2.data.toList.length : Int) = e.f2.size := (by rw [Ut.size_data])
  have e1 : e.f0 + b + (e.f2.size : Int) = e.f1 + (b + grow e) := (by unfold grow; omega)
  have d1 : t.data.toList.drop (e.f0 + b).toNat = e.f2.data.toList ++ app s e.f1 r := by
   have := congrArg (List.drop (cutS s p e.f0).length) ht; rw [List.drop_drop, List.append_assoc, List.drop_left] at this; rw [← this]
   congr 1
   omega
  have d2 : t.data.toList.drop (e.f1 + (b + grow e)).toNat = app s e.f1 r := by
   have := congrArg (List.drop e.f2.data.toList.length) d1; rw [List.drop_drop, List.drop_left] at this; rw [← this]
   congr 1
   omega
  obtain ⟨i1, i2⟩ := inv_app s t r e.f1 (b + grow e) h4 (by omega) (by omega) (by omega) d2
  have c1 : cutS t (p + b) (e.f0 + b) = cutS s p e.f0 := by
   have := cutS_at s t (p + b) (cutS s p e.f0) (e.f2.data.toList ++ app s e.f1 r) hb (by rw [ht, List.append_assoc]); rw [← this]
   congr 1
   omega
  have c2 : cutS t (e.f0 + b) (e.f0 + b + e.f2.size) = e.f2.data.toList := by
   have := cutS_at s t (e.f0 + b) e.f2.data.toList (app s e.f1 r) (by omega) d1; rw [l2] at this; exact this
  constructor
  ·simp only [inv, app]; rw [c1, e1, i1, cutS_eq, ext_listB]
   have : s.data.toList.drop p.toNat = (s.data.toList.take e.f0.toNat).drop p.toNat ++ ((s.data.toList.take e.f1.toNat).drop e.f0.toNat ++ s.data.toList.drop e.f1.toNat) := by
    have g : ∀ (l : List UInt8) (i j : Nat), i ≤ j → l.drop i = (l.take j).drop i ++ l.drop j := by
     intro l i j hij; rw [List.drop_take]
     conv => lhs; rw [← List.take_append_drop (j - i) (l.drop i)]
     rw [List.drop_drop]
     congr 2
     omega
    rw [g s.data.toList p.toNat e.f0.toNat (by omega), g s.data.toList e.f0.toNat e.f1.toNat (by omega)]
   rw [this, List.append_assoc]
  ·simp only [inv]
   have z : (s.extract e.f0.toNat e.f1.toNat).size = e.f1.toNat - e.f0.toNat := (by rw [ByteArray.size_extract]; omega)
   have g : -b + grow ⟨e.f0 + b, e.f0 + b + e.f2.size, s.extract e.f0.toNat e.f1.toNat⟩ = -(b + grow e) := by
    simp only [grow, z]
    omega
   rw [g, i2]
   have x2 : t.extract (e.f0 + b).toNat (e.f0 + b + e.f2.size).toNat = e.f2 := by
    have := congrArg ba c2; simp only [cutS] at this; rw [list_ba, list_ba] at this; exact this
   rw [x2]
   have a0 : e.f0 + b + -b = e.f0 := (by omega)
   have a1 : e.f0 + b + -b + ((s.extract e.f0.toNat e.f1.toNat).size : Int) = e.f1 := (by rw [z]; omega)
   rw [a1, a0]
theorem chk_of {n : Int} {l : List Ed} (h1 : n ≤ 20000) (h2 : l.length ≤ 100) (h3 : sp n 0 l = true) (h4 : n - spanSum l + newSum l ≤ 20000) : chk n l = 0 := by
 unfold chk; rw [if_neg (by omega), if_neg (by omega), if_pos h3, if_neg (by omega)]
theorem back (s : ByteArray) (l : List Ed) (h : chk s.size l = 0) : chk (ba (app s 0 l)).size (inv s 0 l) = 0 ∧ ba (app (ba (app s 0 l)) 0 (inv s 0 l)) = s ∧ inv (ba (app s 0 l)) 0 (inv s 0 l) = l ∧ Fit (inv s 0 l) ∧ (ba (app s 0 l)).size ≤ 20000 := by
 obtain ⟨h1, h2, h3, h4⟩ := chk_ok h; have hl := app_length s l 0 h3 (by omega) (by omega); obtain ⟨s1, s2⟩ := inv_sums s l 0 0 h3 (by omega) (by omega); have hle := span_le h3 (by omega)
 have hsz : ((ba (app s 0 l)).size : Int) = s.size - spanSum l + newSum l := (by rw [ba_size]; omega)
 obtain ⟨i1, i2⟩ := inv_app s (ba (app s 0 l)) l 0 0 h3 (by omega) (by omega) (by omega) (by rw [ba_list]; rfl); refine ⟨chk_of (by omega) (by rw [inv_length]; exact h2) (by have := inv_sp s (ba (app s 0 l)).size l 0 0 h3 (by omega) (by omega) (by omega); exact this) (by rw [s1, s2]; omega), ?_, i2, ⟨by rw [inv_length]; omega, by omega⟩, by omega⟩; have i3 : app (ba (app s 0 l)) 0 (inv s 0 l) = s.data.toList := i1; rw [i3, list_ba]
end Go.Proofs.Ytahcpappailjgaa.P

set_option linter.unusedVariables false
namespace Go.Proofs.Ytahcpappailjgaa.Pure
open Go.RowKit Go.Proofs.Ytahcpappailjgaa Go.Proofs.Ytahcpappailjgaa.P Go.Proofs.YtahcpappailjgaaW.PrintWords
theorem RelexBack : ∀ (a0 : ByteArray) (a1 : List (S39)), OpG.okS a0 → (fun l => l.length ≤ 9223372036854775807 ∧ ∀ a ∈ l, ok39 a) a1 → ∃ k, marginalialaw04_RelexBack.f k a0 a1 = some true := by
 intro a0 a1 h0 h1
 apply Ev.rounds
 have hf : Fit (cut 2000 a1) := (cut_fine h1.2).fit (by omega); have hz := short_size a0; unfold marginalialaw04_RelexBack.f; refine Ev.bind1 (Short_eq a0) (Ev.bind (Cut_ev a1 2000 h1.1) ?_); generalize cut 2000 a1 = m at hf ⊢; generalize short a0 = s at hz ⊢; have hL := Lex_ev s (by omega); have hI := invert_ev s m (by omega) hf; by_cases hs : (s.size : Int) > 20000
 ·rw [if_pos hs] at hL; refine Ev.bind hL (Ev.bind hI (Ev.neg (by decide) (Ev.shift ?_))); simp only [marginalialaw04_RelexBack.j0]; exact Ev.pos trivial (Ev.bind alive_ev (Ev.now _))
 ·rw [if_neg hs] at hL; refine Ev.bind hL (Ev.bind hI (Ev.pos rfl (Ev.shift ?_))); simp only [marginalialaw04_RelexBack.j0]; by_cases hc : chk s.size m = 0
  ·have hT : s.data.toList.length ≤ 20000 := (by rw [isize]; omega)
   have hc4 : chk4 (lexS s.data.toList) m = 0 := (by rw [chk4_lexS _ hT, isize]; exact hc)
   obtain ⟨n, a, b, hok, hR⟩ := Relex_ev (lexS s.data.toList) m (fine_lexS _ hT) hf hc4; have ht := hok.toks; rw [catS_lexS, list_ba] at ht; obtain ⟨b1, b2, b3, b4, b5⟩ := back s m hc; rw [ba_size] at b1 b5
   have hc4' : chk4 (lexS (app s 0 m)) (inv s 0 m) = 0 := (by rw [chk4_lexS _ b5]; exact b1)
   obtain ⟨n', a', b', hok', hR'⟩ := Relex_ev (lexS (app s 0 m)) (inv s 0 m) (fine_lexS _ b5) b4 hc4'; have ht' := hok'.toks; rw [catS_lexS] at ht'
   have e : app (ba (app s 0 m)) 0 (inv s 0 m) = s.data.toList := by
    have := congrArg (fun x : ByteArray => x.data.toList) b2
    simpa [ba_data] using this
   rw [e] at ht'; rw [← ht] at hR'; rw [hc]; simp only [if_true]; refine Ev.neg (by decide) (Ev.bind hR (Ev.bind hR' (Ev.pos rfl (Ev.pos rfl (Ev.bind (rSame_ev n' (lexS s.data.toList) (by rw [ht']; have := lexS_length s.data.toList; omega)) (Ev.pos (decide_eq_true ht') (Ev.bind alive_ev (Ev.now _))))))))
  ·exact Ev.pos (by simpa using hc) (Ev.bind alive_ev (Ev.now _))
end Go.Proofs.Ytahcpappailjgaa.Pure

