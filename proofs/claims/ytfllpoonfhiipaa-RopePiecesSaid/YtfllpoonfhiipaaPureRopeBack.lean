/- Apply of Invert to the new string is the old one, and Undo of Edit has the old string: the law returns true. -/
import Derived.Test.YtfllpoonfhiipaaRopeSp3
import Derived.Outline
set_option linter.unusedVariables false
namespace Go.Proofs.Ytfllpoonfhiipaa.Pure
open Go.RowKit Go.Proofs.Ytfllpoonfhiipaa Go.Proofs.Ytfllpoonfhiipaa.P Go.Proofs.YtfllpoonfhiipaaW.PrintWords Go.Proofs.YtfllpoonfhiipaaW.PrintLast Go.Proofs.YtfllpoonfhiipaaW.PrintMore
theorem tot_one (s : ByteArray) : Rope.tot (Rope.one s) = s.size := by
  unfold Rope.one Rope.tot
  split <;> simp_all
theorem txt_one (s : ByteArray) : Rope.txt (Rope.one s) = s.data.toList := by
  unfold Rope.one Rope.txt
  split
  · have : s.data.toList.length = 0 := by rw [Ut.size_data]; assumption
    rw [List.length_eq_zero_iff.mp this]
    simp
  · simp
theorem one_length (s : ByteArray) : (Rope.one s).length ≤ 1 := by
  unfold Rope.one
  split <;> simp
set_option maxHeartbeats 8000000 in
set_option maxRecDepth 100000 in
theorem RopeBack (W : World) (a0 : ByteArray) (A1 : Option Addr) (c1 : Nat) (a1 : List (S47)) (hr1 : Kd.C k47 W A1 a1.length a1) (hc1 : a1.length ≤ c1)
    (ok0 : OpG.okS a0) (ok1 : (fun l => l.length ≤ 9223372036854775807 ∧ ∀ a ∈ l, ok47 a) a1) :
    Calls Try.prog 8 #[.string a0, .slice A1 a1.length c1] W fun e w' => e = .returned (.bool true) ∧ Below W.heap.size W w' := by
  have hf : Fit (cut 2000 a1) := (cut_fine ok1.2).fit (by omega)
  obtain ⟨K1, hK1⟩ := Cut_ev a1 2000 ok1.1
  have hcut := hK1 K1 (Nat.le_refl _)
  have hz := short_size a0
  obtain ⟨K2, hK2⟩ := apply_ev (short a0) (cut 2000 a1) (by omega) hf
  have hap := hK2 K2 (Nat.le_refl _)
  have hSh := Short_eq a0
  clear hK1 hK2 ok0 ok1
  go_enter Try.func8, Try.ntmps8
  go_wp2_with fail
  refine (marginaliaref01_Short.calls a0 _ _ hSh).mono ?_
  rintro e w1 ⟨rfl, hb1⟩
  have hr2 := Kd.C_below hr1 hb1
  generalize short a0 = s at *
  go_wp2_with fail
  refine (marginaliaref01_Cut.calls K1 _ _ a1 2000 _ _ hr2 hc1 hcut).mono ?_
  rintro e w2 ⟨v, rfl, hv, hb2⟩
  obtain ⟨A, c, rfl, hc, hC⟩ := Kd.R_reads hv
  have HB2 := Aside0.mk (Kx.below_step hb1 hb2)
  clear hv hb1 hb2 hr1 hr2 hcut hc1 hSh
  generalize cut 2000 a1 = t at *
  go_wp2_with fail
  refine (rope_Apply.calls K2 s _ _ t _ _ _ hC hc hap).mono ?_
  rintro e w3 ⟨rfl, hb3⟩
  have hC3 := Kd.C_below hC hb3
  have HB3 := Aside0.mk (Kx.below_step HB2.out hb3)
  clear hC hb3 HB2 hap
  by_cases h : chk s.size t = 0
  · have HH := Aside0.mk h
    simp only [if_pos h]
    rw [h]
    obtain ⟨q1, q2, q3, q4, q5⟩ := back s t h
    obtain ⟨o1, o2, o3, o4⟩ := chk_ok h
    obtain ⟨K3, hK3⟩ := invert_ev s t (by omega) hf
    have hiv := hK3 K3 (Nat.le_refl _)
    rw [if_pos h, h] at hiv
    have q5' : (ba (app s 0 t)).size ≤ 9223372036854775807 := by omega
    obtain ⟨K4, hK4⟩ := apply_ev (ba (app s 0 t)) (inv s 0 t) q5' q4
    have hap2 := hK4 K4 (Nat.le_refl _)
    rw [if_pos q1, q1, q2] at hap2
    obtain ⟨K5, hK5⟩ := invert_ev (ba (app s 0 t)) (inv s 0 t) q5' q4
    have hiv2 := hK5 K5 (Nat.le_refl _)
    rw [if_pos q1, q1, q3] at hiv2
    obtain ⟨K6, hK6⟩ := same_ev t t (by omega)
    have hsm := hK6 K6 (Nat.le_refl _)
    rw [sameB_refl] at hsm
    have HQ := Aside0.mk (And.intro o2 (And.intro o3 (And.intro q5 o1)))
    clear hK3 hK4 hK5 hK6 q1 q2 q3 q4 q5 q5' o1 o2 o3 o4 h hz
    obtain ⟨ap, hapd⟩ : ∃ ap, Aside0 (ap = app s 0 t) := ⟨_, ⟨rfl⟩⟩
    rw [← hapd.out] at hap2 hiv2 ⊢
    generalize inv s 0 t = b at *
    go_wp2_with fail
    refine (rope_Invert.calls K3 s _ _ t _ _ _ hC3 hc hiv).mono ?_
    rintro e w4 ⟨v4, rfl, hv4, hb4⟩
    obtain ⟨A4, c4, rfl, hc4, hC4⟩ := Kd.R_reads hv4
    have hC3' := Kd.C_below hC3 hb4
    have HB4 := Aside0.mk (Kx.below_step HB3.out hb4)
    clear hv4 hb4 hC3 HB3 hiv
    go_wp2_with fail
    refine (rope_Apply.calls K4 _ _ _ b _ _ _ hC4 hc4 hap2).mono ?_
    rintro e w5 ⟨rfl, hb5⟩
    have hC5 := Kd.C_below hC4 hb5
    have hC5' := Kd.C_below hC3' hb5
    have HB5 := Aside0.mk (Kx.below_step HB4.out hb5)
    clear hC4 hb5 hC3' HB4 hap2
    go_wp2_with fail
    refine (rope_Invert.calls K5 _ _ _ b _ _ _ hC5 hc4 hiv2).mono ?_
    rintro e w6 ⟨v6, rfl, hv6, hb6⟩
    obtain ⟨A6, c6, rfl, hc6, hC6⟩ := Kd.R_reads hv6
    have hC6' := Kd.C_below hC5' hb6
    have HB6 := Aside0.mk (Kx.below_step HB5.out hb6)
    clear hv6 hb6 hC5 hC5' HB5 hiv2
    go_wp2_with fail
    refine (marginaliaref01_Same.calls K6 _ _ t _ _ t _ _ hC6 hc6 hC6' hc hsm).mono ?_
    rintro e w7 ⟨rfl, hd7⟩
    obtain ⟨hb7⟩ : Nonempty (Below w6.heap.size w6 w7) := ⟨Drawn0.below hd7⟩
    have hC7 := Kd.C_below hC6' hb7
    have HB7 := Aside0.mk (Kx.below_step HB6.out hb7)
    clear hd7 hb7 hC6 hC6' HB6 hsm hc6
    go_wp2_with fail
    refine (Rope.New_ok s _ (by have := HQ.out.2.2.2; omega)).mono ?_
    rintro e w8 ⟨v8, rfl, hI8, hb8⟩
    have hC8 := Kd.C_below hC7 hb8
    have HB8 := Aside0.mk (Kx.below_step HB7.out hb8)
    clear hb8 hC7 HB7
    obtain ⟨g8, u8, hv8, _⟩ := hI8.open
    subst hv8
    go_wp2_with fail
    have htx : Rope.txt (Rope.editP (Rope.one s) (Rope.tot (Rope.one s)) 0 t) = ap := by
      rw [txt_editP _ _ _ (by rw [tot_one]; exact HQ.out.2.1) (by omega), txt_one, list_ba, hapd.out]
    have htl := congrArg List.length htx
    rw [Rope.txt_length] at htl
    have htz : ap.length ≤ 20000 := by have := HQ.out.2.2.1; rw [← hapd.out, ba_size] at this; exact this
    refine (Rope.Edit_ok _ _ _ _ t _ hI8 (by have := HQ.out.2.2.2; show Rope.tot (Rope.one s) ≤ _; rw [tot_one]; omega) (by have := one_length s; show (Rope.one s).length ≤ _; omega) hf hC8 hc (by show chk (Rope.tot (Rope.one s)) t = 0; rw [tot_one]; exact HH.out) (by show Rope.tot (Rope.editP (Rope.one s) (Rope.tot (Rope.one s)) 0 t) ≤ _; omega)).mono ?_
    rintro e w9 ⟨v9, rfl, hI9, hb9⟩
    have hI8' := hI8.below hb9
    have HB9 := Aside0.mk (Kx.below_step HB8.out hb9)
    clear hb9 hC8 HB8 hI8
    obtain ⟨g9, u9, hv9, _⟩ := hI9.open
    subst hv9
    go_wp2_with fail
    refine (Rope.Text_ok _ _ _ hI9 (by show Rope.tot (Rope.editP (Rope.one s) (Rope.tot (Rope.one s)) 0 t) ≤ _; omega)).mono ?_
    rintro e w10 ⟨rfl, hb10⟩
    have htx' : (⟨(Rope.txt (Rope.editP (Rope.one s) (Rope.tot (Rope.one s)) 0 t)).toArray⟩ : ByteArray) = ba ap := by rw [htx]; rfl
    rw [show (Rope.Rp.step (Rope.editP (Rope.Rp.base (Rope.one s)).ps (Rope.tot (Rope.Rp.base (Rope.one s)).ps) 0 t) (Rope.Rp.base (Rope.one s))).ps = Rope.editP (Rope.one s) (Rope.tot (Rope.one s)) 0 t from rfl, htx']
    have hI8'' := hI8'.below hb10
    have hI9' := hI9.below hb10
    have HB10 := Aside0.mk (Kx.below_step HB9.out hb10)
    clear hb10 HB9 hI8' hI9 htx htx' htl htz
    go_wp2_with fail
    refine (Rope.Undo_step _ _ _ _ hI9').mono ?_
    rintro e w11 ⟨u11, rfl, hI11, rfl⟩
    obtain ⟨g11, u11, hv11, _⟩ := hI11.open
    subst hv11
    clear hI9'
    go_wp2_with fail
    have htz : Rope.tot (Rope.one s) ≤ 140737488355328 := by have := HQ.out.2.2.2; rw [tot_one]; omega
    have htt : (⟨(Rope.txt (Rope.Rp.base (Rope.one s)).ps).toArray⟩ : ByteArray) = s := (congrArg ba (txt_one s)).trans (list_ba s)
    refine (Rope.Text_ok _ _ _ hI11 htz).mono ?_
    rintro e w12 ⟨rfl, hb12⟩
    rw [htt]
    have hI12 := hI8''.below hb12
    have HB12 := Aside0.mk (Kx.below_step HB10.out hb12)
    clear hb12 HB10 hI11 hI8''
    go_wp2_with fail
    refine (Rope.Text_ok _ _ _ hI12 htz).mono ?_
    rintro e w13 ⟨rfl, hb13⟩
    rw [htt]
    have HB13 := Aside0.mk (Kx.below_step HB12.out hb13)
    clear hb13 HB12 hI12
    go_wp2_with fail
    refine (marginalialaw01_alive.calls true _ rfl).mono ?_
    rintro e w2 ⟨rfl, hb2⟩
    go_wp2_with fail
    go_ret
    exact ⟨rfl, Kx.below_step HB13.out hb2⟩
  · simp only [if_neg h]
    have hne : (chk s.size t != 0) = true := bne_iff_ne.mpr h
    clear h hC3 hc hf
    generalize chk s.size t = z at *
    go_wp2_with fail
    refine (marginalialaw01_alive.calls true _ rfl).mono ?_
    rintro e w2 ⟨rfl, hb2⟩
    go_wp2_with fail
    go_ret
    exact ⟨rfl, Kx.below_step HB3.out hb2⟩
end Go.Proofs.Ytfllpoonfhiipaa.Pure
