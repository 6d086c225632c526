/- The contract of impl.LimitsOk in the printed form. -/
import Derived.Test.YtackpmnjmfelnaaKFnOccupancy05
namespace Go.Proofs.Ytackpmnjmfelnaa.Q
open Go.RowKit Go.Proofs.YtackpmnjmfelnaaW.PrintWords Go.Proofs.YtackpmnjmfelnaaW.PrintLast Go.Proofs.YtackpmnjmfelnaaW.PrintMore
set_option linter.unusedVariables false
set_option linter.unusedSimpArgs false

def impl_LimitsOk.f (a0_0 a0_1 a0_2 a0_3 : Int) : Option Bool := some (!([a0_0, a0_1, a0_2, a0_3].any fun x => !(inR 0 1000000 x)))
set_option maxHeartbeats 1000000 in
set_option maxRecDepth 100000 in
theorem impl_LimitsOk.calls (a0_0 : Int) (a0_1 : Int) (a0_2 : Int) (a0_3 : Int) (r : Bool) (w : World) (h : impl_LimitsOk.f a0_0 a0_1 a0_2 a0_3 = some r) :
    Calls Try.prog 23 #[.agg #[.int .i64 a0_0, .int .i64 a0_1, .int .i64 a0_2, .int .i64 a0_3]] w fun e w' => e = .returned (.bool r) ∧ Below w.heap.size w w' := by
  have hu37 := Try.underlying37
  have eg : ∀ args w, (callFunc 48 args).run Try.prog w = .ok (.enter 48 args) w := enters Try.func48 (by kernel_rfl) rfl
  have HC := Aside0.mk (fun A0 c0 W hr => slices_ContainsFunc_int.calls 48 (fun x => !(inR 0 1000000 x)) eg (fun W x => impl_LimitsOk_1.calls x _ W (by unfold impl_LimitsOk_1.f; rw [within_f]; rfl)) A0 c0 [a0_0, a0_1, a0_2, a0_3] W hr (by simp))
  obtain rfl := Option.some.inj h
  clear h
  go_enter Try.func23, Try.ntmps23
  go_wp2_with fail
  refine (HC.out _ _ _ (Kd.C_of_reads (d := (0 : Int)) (h1 := fun _ => rfl) ⟨rfl, by simp, fun _ => ⟨_, rfl, fun j hj => ?_⟩⟩)).mono ?_
  · rw [add_plain]
    refine (blk_cell (by have h2 := heap_alloc_new (w.alloc (.cells #[.int .i64 a0_0, .int .i64 a0_1, .int .i64 a0_2, .int .i64 a0_3] 37)) (.cells #[.int .i64 a0_0, .int .i64 a0_1, .int .i64 a0_2, .int .i64 a0_3] 3); simpa using h2) j).trans ?_
    have hj' : j < 4 := by simpa using hj
    match j, hj' with
    | 0, _ => rfl
    | 1, _ => rfl
    | 2, _ => rfl
    | 3, _ => rfl
  rintro e w' ⟨rfl, ⟨nd, rfl⟩⟩
  go_wp2_with fail
  go_ret
  exact ⟨by first | rfl | (simp; done) | (simp [*]; done), pw_below_drewN (((Below.refl _ _).alloc (Nat.le_refl _) _).alloc (by simp) _) _⟩

end Go.Proofs.Ytackpmnjmfelnaa.Q
