/- The contract of impl.TimesOk in the printed form. -/
import Derived.Test.YtopckcppmpmcnaaKFnLaunches06
namespace Go.Proofs.Ytopckcppmpmcnaa.Q
open Go.RowKit Go.Proofs.YtopckcppmpmcnaaW.PrintWords Go.Proofs.YtopckcppmpmcnaaW.PrintLast Go.Proofs.YtopckcppmpmcnaaW.PrintMore
set_option linter.unusedVariables false
set_option linter.unusedSimpArgs false

def impl_TimesOk.f (l0 : List Int) : Option Bool := some (decide (l0.length ≤ 60) && !(l0.any fun x => !(inR 0 1000000 x)))
set_option maxHeartbeats 1000000 in
set_option maxRecDepth 100000 in
theorem impl_TimesOk.calls (A0 : Option Addr) (c0 : Nat) (l0 : List Int) (r : Bool) (w : World) (hr0 : Kd.C (Kd.int .i64) w A0 l0.length l0) (hc0 : l0.length ≤ c0) (h : impl_TimesOk.f l0 = some r) :
    Calls Try.prog 94 #[.slice A0 l0.length c0] w fun e w' => e = .returned (.bool r) ∧ Drawn0 w w' := by
  have eg : ∀ args w, (callFunc 113 args).run Try.prog w = .ok (.enter 113 args) w := enters Try.func113 (by kernel_rfl) rfl
  have HR := Aside0.mk hr0
  obtain rfl := Option.some.inj h
  clear h hr0
  by_cases hl : l0.length ≤ 60
  · have HC := Aside0.mk (fun W hr => slices_ContainsFunc_int.calls 113 (fun x => !(inR 0 1000000 x)) eg (fun W x => impl_TimesOk_1.calls x _ W (by unfold impl_TimesOk_1.f; rw [within_f]; rfl)) A0 c0 l0 W hr (by omega))
    have e1 : decide ((l0.length : Int) ≤ 60) = true := by simp; omega
    have e2 : decide (l0.length ≤ 60) = true := by simp; omega
    rw [e2, Bool.true_and]
    generalize (l0.any fun x => !(inR 0 1000000 x)) = b at HC ⊢
    go_enter Try.func94, Try.ntmps94
    go_wp2_with fail
    refine (HC.out _ (by first | exact HR.out | exact Kd.C_below HR.out (Drawn0.below ⟨⟨_, rfl⟩⟩))).mono ?_
    rintro e w' ⟨rfl, ⟨nd, rfl⟩⟩
    go_wp2_with fail
    go_ret
    exact ⟨by first | rfl | (simp; done) | (simp [*]; done), by repeat (first | exact Drawn0.refl _ | apply Drawn0.step)⟩
  · have e1 : decide ((l0.length : Int) ≤ 60) = false := by simp; omega
    have e2 : decide (l0.length ≤ 60) = false := by simp; omega
    rw [e2, Bool.false_and]
    clear eg
    go_enter Try.func94, Try.ntmps94
    go_wp2_with fail
    go_ret
    exact ⟨by first | rfl | (simp; done) | (simp [*]; done), by repeat (first | exact Drawn0.refl _ | apply Drawn0.step)⟩

end Go.Proofs.Ytopckcppmpmcnaa.Q
