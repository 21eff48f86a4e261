-- printed by xprint (a program of this session)
import Derived.Test.YtfllpoonfhiipaaPx0
import Derived.Test.YtfllpoonfhiipaaPx4
import Derived.Test.YtfllpoonfhiipaaPx5
import Derived.Test.YtfllpoonfhiipaaPx6
import Derived.Test.YtfllpoonfhiipaaPx7
namespace Go.Proofs.Ytfllpoonfhiipaa.P
open Go.RowKit Go.Proofs.YtfllpoonfhiipaaW.PrintWords Go.Proofs.YtfllpoonfhiipaaW.PrintLast Go.Proofs.YtfllpoonfhiipaaW.PrintMore
attribute [local go_sem] max2_int min2_int max_two min_two max_three min_three max_four min_four   -- for this text's walks alone
set_option linter.unusedVariables false
set_option linter.unusedSimpArgs false

/-! ### marginalialaw01_alive: function 21 -/
-- GIVEN PART
def marginalialaw01_alive.f : Option (Bool) := some true
def marginalialaw01_alive.s1 : List (S47) := [⟨1, 2, ⟨#[120]⟩⟩, ⟨2, 2, ⟨#[121, 122]⟩⟩]
def marginalialaw01_alive.s2 : List (S47) := [⟨1, 2, ⟨#[98]⟩⟩, ⟨2, 4, ⟨#[]⟩⟩]
def marginalialaw01_alive.s3 : List (S47) := [⟨1, 3, ⟨#[120]⟩⟩]
def marginalialaw01_alive.s4 : List (S47) := [⟨2, 2, ⟨#[98]⟩⟩]
theorem marginalialaw01_alive.e0 : marginalialaw01_sample.f = some marginalialaw01_alive.s1 := by kernel_rfl
theorem marginalialaw01_alive.e1 : rope_Apply.f 10 ⟨#[97, 98, 99, 100]⟩ marginalialaw01_alive.s1 = some (⟨#[97, 120, 121, 122, 99, 100]⟩, 0) := by kernel_rfl
theorem marginalialaw01_alive.e2 : rope_Invert.f 10 ⟨#[97, 98, 99, 100]⟩ marginalialaw01_alive.s1 = some (marginalialaw01_alive.s2, 0) := by kernel_rfl
theorem marginalialaw01_alive.e3 : rope_Move.f 10 marginalialaw01_alive.s3 2 false = some (2, 0) := by kernel_rfl
theorem marginalialaw01_alive.e4 : rope_Diff.f 10 ⟨#[97, 98, 99]⟩ ⟨#[97, 98, 98, 99]⟩ = some (marginalialaw01_alive.s4, 0) := by kernel_rfl
theorem marginalialaw01_alive.e5 : marginaliaref01_Same.f 10 marginalialaw01_alive.s2 marginalialaw01_alive.s2 = some true := by kernel_rfl
theorem marginalialaw01_alive.e6 : marginaliaref01_Same.f 10 marginalialaw01_alive.s4 marginalialaw01_alive.s4 = some true := by kernel_rfl
set_option maxHeartbeats 8000000 in
set_option maxRecDepth 100000 in
theorem marginalialaw01_alive.calls (r : Bool) (w : World) (h : marginalialaw01_alive.f = some r) :
    Calls Try.prog 21 #[] w fun e w' => e = .returned (.bool r) ∧ Below w.heap.size w w' := by
  have hu := Try.underlying47
  simp only [marginalialaw01_alive.f, Option.some.injEq] at h
  subst h
  go_enter Try.func21, Try.ntmps21
  go_wp2_with fail
  refine (marginalialaw01_sample.calls _ _ marginalialaw01_alive.e0).mono ?_
  rintro e w1 ⟨v, rfl, hv, hb1⟩
  obtain ⟨A, c, rfl, hc, hC⟩ := Kd.R_reads hv
  go_wp2_with fail
  refine (rope_Apply.calls 10 _ _ _ marginalialaw01_alive.s1 _ 0 _ hC hc marginalialaw01_alive.e1).mono ?_
  rintro e w2 ⟨rfl, hb2⟩
  clear hv hC hc
  go_wp2_with fail
  refine (marginalialaw01_sample.calls _ _ marginalialaw01_alive.e0).mono ?_
  rintro e w3 ⟨v, rfl, hv, hb3⟩
  obtain ⟨A, c, rfl, hc, hC⟩ := Kd.R_reads hv
  go_wp2_with fail
  refine (rope_Invert.calls 10 _ _ _ marginalialaw01_alive.s1 _ 0 _ hC hc marginalialaw01_alive.e2).mono ?_
  rintro e w4 ⟨v, rfl, hv4, hb4⟩
  clear hv hC hc
  obtain ⟨A, c, rfl, hc, hC⟩ := Kd.R_reads hv4
  clear hv4
  have hB4 : Below w.heap.size w w4 := Kx.below_step (Kx.below_step (Kx.below_step hb1 hb2) hb3) hb4
  have HB4 := Aside0.mk hB4
  clear hb1 hb2 hb3 hb4 hB4
  have HC4 := Aside0.mk hC
  clear hC
  go_wp2_with fail
  have hC5 : k47.C (w4.alloc (.cells #[.int .i64 1, .int .i64 3, .string ⟨#[120]⟩] 47)) (some ⟨w4.heap.size, 0, none⟩) marginalialaw01_alive.s3.length marginalialaw01_alive.s3 :=
    Kx.C_lit _ (cs := [.int .i64 1, .int .i64 3, .string ⟨#[120]⟩]) (Bld.alloc_at _ _) (Kx.Reps.cons (k47_mk _ ⟨1, 3, ⟨#[120]⟩⟩) rfl (Reps.none _ _)) (by simp [marginalialaw01_alive.s3])
  refine (rope_Move.calls 10 _ _ marginalialaw01_alive.s3 2 false 2 0 _ hC5 (Nat.le_refl _) marginalialaw01_alive.e3).mono ?_
  rintro e w5 ⟨rfl, hb5⟩
  clear hC5
  have hB5 : Below w4.heap.size w4 w5 := Kx.below_step ((Below.refl _ _).alloc (Nat.le_refl _) _) hb5
  have HB5 := Aside0.mk hB5
  clear hb5 hB5
  go_wp2_with fail
  refine (rope_Diff.calls 10 _ _ marginalialaw01_alive.s4 0 _ marginalialaw01_alive.e4).mono ?_
  rintro e w6 ⟨v, rfl, hv6, hb6⟩
  obtain ⟨A6, c6, rfl, hc6, hC6⟩ := Kd.R_reads hv6
  clear hv6
  have HB6 := Aside0.mk hb6
  have HC6 := Aside0.mk hC6
  clear hb6 hC6
  go_wp2_with fail
  refine (Rope.New_ok _ _ (by decide)).mono ?_
  rintro e w7 ⟨v, rfl, hr7, hb7⟩
  have HB7 := Aside0.mk hb7
  have HR7 := Aside0.mk hr7
  obtain ⟨g7, u7, rfl, _⟩ := hr7.open
  clear hb7 hr7
  obtain ⟨jr, hjr, _⟩ := Option.map_eq_some_iff.1 (show (Try.prog.info? 66).map (·.size) = some 4 by kernel_rfl)
  go_wp2_with fail
  have hB47 : Below w4.heap.size w4 w7 := Kx.below_step (Kx.below_step HB5.out HB6.out) HB7.out
  have hCa : k47.C (w7.alloc (.cells #[.int .i64 1, .int .i64 2, .string ⟨#[98]⟩, .int .i64 2, .int .i64 4, .string ⟨#[]⟩] 47)) A marginalialaw01_alive.s2.length marginalialaw01_alive.s2 := Kd.C_alloc (Kd.C_below HC4.out hB47) _
  have hCb : k47.C (w7.alloc (.cells #[.int .i64 1, .int .i64 2, .string ⟨#[98]⟩, .int .i64 2, .int .i64 4, .string ⟨#[]⟩] 47)) (some ⟨w7.heap.size, 0, none⟩) marginalialaw01_alive.s2.length marginalialaw01_alive.s2 :=
    Kx.C_lit _ (cs := [.int .i64 1, .int .i64 2, .string ⟨#[98]⟩, .int .i64 2, .int .i64 4, .string ⟨#[]⟩]) (Bld.alloc_at _ _) (Kx.Reps.cons (k47_mk _ ⟨1, 2, ⟨#[98]⟩⟩) rfl (Kx.Reps.cons (k47_mk _ ⟨2, 4, ⟨#[]⟩⟩) rfl (Reps.none _ _))) (by simp [marginalialaw01_alive.s2])
  refine (marginaliaref01_Same.calls 10 _ _ marginalialaw01_alive.s2 _ _ marginalialaw01_alive.s2 true _ hCa hc hCb (Nat.le_refl _) marginalialaw01_alive.e5).mono ?_
  rintro e w8 ⟨rfl, hd8⟩
  have HB8 := Aside0.mk (Kx.below_step ((Below.refl _ _).alloc (Nat.le_refl _) _) (Kx.Drawn0.below hd8))
  have HB48 := Aside0.mk (Kx.below_step hB47 HB8.out)
  clear hd8 hCa hCb hB47
  go_wp2_with fail
  have hB68 : Below w6.heap.size w6 w8 := Kx.below_step HB7.out HB8.out
  have hCa : k47.C (w8.alloc (.cells #[.int .i64 2, .int .i64 2, .string ⟨#[98]⟩] 47)) A6 marginalialaw01_alive.s4.length marginalialaw01_alive.s4 := Kd.C_alloc (Kd.C_below HC6.out hB68) _
  have hCb : k47.C (w8.alloc (.cells #[.int .i64 2, .int .i64 2, .string ⟨#[98]⟩] 47)) (some ⟨w8.heap.size, 0, none⟩) marginalialaw01_alive.s4.length marginalialaw01_alive.s4 :=
    Kx.C_lit _ (cs := [.int .i64 2, .int .i64 2, .string ⟨#[98]⟩]) (Bld.alloc_at _ _) (Kx.Reps.cons (k47_mk _ ⟨2, 2, ⟨#[98]⟩⟩) rfl (Reps.none _ _)) (by simp [marginalialaw01_alive.s4])
  refine (marginaliaref01_Same.calls 10 _ _ marginalialaw01_alive.s4 _ _ marginalialaw01_alive.s4 true _ hCa hc6 hCb (Nat.le_refl _) marginalialaw01_alive.e6).mono ?_
  rintro e w9 ⟨rfl, hd9⟩
  have HB9 := Aside0.mk (Kx.below_step ((Below.refl _ _).alloc (Nat.le_refl _) _) (Kx.Drawn0.below hd9))
  have HB79 := Aside0.mk (Kx.below_step HB8.out HB9.out)
  have HR9 := Aside0.mk (Rope.IsRp.below HB79.out HR7.out)
  clear hd9 hCa hCb hB68
  go_wp2_with fail
  refine (Rope.Lines_ok _ _ _ HR9.out (by decide)).mono ?_
  rintro e w10 ⟨rfl, rfl⟩
  go_wp2_with fail
  refine (Rope.Text_ok _ _ _ HR9.out (by decide)).mono ?_
  rintro e w11 ⟨rfl, hb11⟩
  go_wp2_with fail
  go_ret
  refine ⟨congrArg (fun b => Ending.returned (.bool b)) (show (Rope.txt (Rope.Rp.base (Rope.one ⟨#[97, 98, 10, 99]⟩)).ps == [97, 98, 10, 99]) = true by decide), Kx.below_step (Kx.below_step HB4.out HB48.out) (Kx.below_step HB9.out hb11)⟩

end Go.Proofs.Ytfllpoonfhiipaa.P
