/- The closed facts of the statement FnExactFormatBlock: in a text of their own, for their memory. -/
import Derived.Test.YtmnkbchieplicaaGreatDoorRows
import Derived.WalkKit
import Derived.ProofKit
namespace Go.Proofs.YtmnkbchieplicaaGreatDoor.fnExactFormatBlock
theorem and2 {a b : Bool} (h1 : a = true) (h2 : b = true) : (a && b) = true := by rw [h1, h2]; rfl
theorem three : (Tryz.pinned.checked.prog.mayEnter && ((Rows.fnExactFormatBlockRow).lifted == Tryz.pinned.checked.prog.liftsFinal) && (Tryz.pinned.checked.prog.make == some (Rows.fnExactFormatBlockRow).make)) = true := by kernel_rfl
theorem three1 : Tryz.pinned.checked.prog.mayEnter = true := by
  have h := three
  simp only [Bool.and_eq_true] at h
  exact h.1.1
theorem three2 : ((Rows.fnExactFormatBlockRow).lifted == Tryz.pinned.checked.prog.liftsFinal) = true := by
  have h := three
  simp only [Bool.and_eq_true] at h
  exact h.1.2
theorem three3 : (Tryz.pinned.checked.prog.make == some (Rows.fnExactFormatBlockRow).make) = true := by
  have h := three
  simp only [Bool.and_eq_true] at h
  exact h.2
set_option maxHeartbeats 8000000 in
set_option maxRecDepth 100000 in
theorem closed : joinedFacts Tryz.pinned.checked.prog 3 Tryz.f3 Rows.fnExactFormatBlockSpec Rows.fnExactFormatBlockRow = true := by
  unfold joinedFacts
  repeat' (with_reducible refine and2 ?_ ?_)
  all_goals (first | with_reducible exact three1 | with_reducible exact three2 | with_reducible exact three3 | (as_aux_lemma => kernel_rfl))
end Go.Proofs.YtmnkbchieplicaaGreatDoor.fnExactFormatBlock
