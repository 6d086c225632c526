/- impl.AreWords. -/
import Derived.Test.YtmnkbchieplicaaGreatDoorKFnExactFormatBlock11
namespace Go.Proofs.YtmnkbchieplicaaGreatDoor.Q
open Go.RowKit Go.Proofs.YtmnkbchieplicaaGreatDoorW.PrintWords Go.Proofs.YtmnkbchieplicaaGreatDoorW.PrintLast Go.Proofs.YtmnkbchieplicaaGreatDoorW.PrintMore
set_option linter.unusedVariables false
set_option linter.unusedSimpArgs false

set_option maxRecDepth 100000 in
theorem areWords1_calls (W : World) (x : Int) : Calls Tryz.prog 145 #[.int .i64 x] W fun e W' => e = .returned (.bool (!(inR 0 65535 x))) ∧ Drawn0 W W' := by
  have HC := Aside0.mk (fun W => impl_IsWord.calls x (inR 0 65535 x) W (by unfold impl_IsWord.f; rw [within_f]; rfl))
  go_enter Tryz.func145, Tryz.ntmps145
  go_wp2_with fail
  refine (HC.out _).mono ?_
  rintro e w' ⟨rfl, ⟨nd, rfl⟩⟩
  go_wp2_with fail
  go_ret
  exact ⟨by first | rfl | (simp; done) | (simp [*]; done), by repeat (first | exact Drawn0.refl _ | apply Drawn0.step)⟩
def impl_AreWords.f (l0 : List Int) : Option Bool := if l0.length ≤ 1000000 then some (!(l0.any fun x => !(inR 0 65535 x))) else none
set_option maxHeartbeats 1000000 in
set_option maxRecDepth 100000 in
theorem impl_AreWords.calls (A0 : Option Addr) (c0 : Nat) (l0 : List Int) (r : Bool) (w : World) (hr0 : Kd.C (Kd.int .i64) w A0 l0.length l0) (hc0 : l0.length ≤ c0) (h : impl_AreWords.f l0 = some r) :
    Calls Tryz.prog 111 #[.slice A0 l0.length c0] w fun e w' => e = .returned (.bool r) ∧ Drawn0 w w' := by
  have eg : ∀ args w, (callFunc 145 args).run Tryz.prog w = .ok (.enter 145 args) w := enters Tryz.func145 (by kernel_rfl) rfl
  have HR := Aside0.mk hr0
  unfold impl_AreWords.f at h
  by_cases hl : l0.length ≤ 1000000
  · rw [if_pos hl] at h
    obtain rfl := Option.some.inj h
    have HC := Aside0.mk (fun W hr => slices_ContainsFunc_int.calls 145 (fun x => !(inR 0 65535 x)) eg areWords1_calls A0 c0 l0 W hr (by omega))
    clear h hl hr0 eg
    generalize (l0.any fun x => !(inR 0 65535 x)) = b at HC ⊢
    go_enter Tryz.func111, Tryz.ntmps111
    go_wp2_with fail
    refine (HC.out _ (by first | exact HR.out | exact Kd.C_below HR.out (Drawn0.below ⟨⟨_, rfl⟩⟩))).mono ?_
    rintro e w' ⟨rfl, ⟨nd, rfl⟩⟩
    go_wp2_with fail
    go_ret
    exact ⟨by first | rfl | (simp; done) | (simp [*]; done), by repeat (first | exact Drawn0.refl _ | apply Drawn0.step)⟩
  · rw [if_neg hl] at h; cases h

end Go.Proofs.YtmnkbchieplicaaGreatDoor.Q
