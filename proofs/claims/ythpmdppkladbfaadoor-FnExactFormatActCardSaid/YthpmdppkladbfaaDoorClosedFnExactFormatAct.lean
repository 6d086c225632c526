/- The closed facts of the statement FnExactFormatAct: in a text of their own, for their memory. -/
import Derived.Test.YthpmdppkladbfaaDoorRows
import Derived.WalkKit
import Derived.ProofKit
namespace Go.Proofs.YthpmdppkladbfaaDoor.fnExactFormatAct
theorem and2 {a b : Bool} (h1 : a = true) (h2 : b = true) : (a && b) = true := by rw [h1, h2]; rfl
theorem three : (Tryd.pinned.checked.prog.mayEnter && ((Rows.fnExactFormatActRow).lifted == Tryd.pinned.checked.prog.liftsFinal) && (Tryd.pinned.checked.prog.make == some (Rows.fnExactFormatActRow).make)) = true := by kernel_rfl
theorem three1 : Tryd.pinned.checked.prog.mayEnter = true := by
  have h := three
  simp only [Bool.and_eq_true] at h
  exact h.1.1
theorem three2 : ((Rows.fnExactFormatActRow).lifted == Tryd.pinned.checked.prog.liftsFinal) = true := by
  have h := three
  simp only [Bool.and_eq_true] at h
  exact h.1.2
theorem three3 : (Tryd.pinned.checked.prog.make == some (Rows.fnExactFormatActRow).make) = true := by
  have h := three
  simp only [Bool.and_eq_true] at h
  exact h.2
theorem closed : joinedFacts Tryd.pinned.checked.prog 3 Tryd.f3 Rows.fnExactFormatActSpec Rows.fnExactFormatActRow = true := by
  unfold joinedFacts
  repeat' (with_reducible refine and2 ?_ ?_)
  all_goals (first | with_reducible exact three1 | with_reducible exact three2 | with_reducible exact three3 | (as_aux_lemma => kernel_rfl))
end Go.Proofs.YthpmdppkladbfaaDoor.fnExactFormatAct
