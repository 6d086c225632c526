/- The closed facts of the statement FnExactResidentFor: in a text of their own, for their memory. -/
import Derived.Test.YtopckcppmpmcnaaRows
import Derived.WalkKit
import Derived.ProofKit
namespace Go.Proofs.Ytopckcppmpmcnaa.fnExactResidentFor
theorem and2 {a b : Bool} (h1 : a = true) (h2 : b = true) : (a && b) = true := by rw [h1, h2]; rfl
theorem three : (Try.pinned.checked.prog.mayEnter && ((Rows.fnExactResidentForRow).lifted == Try.pinned.checked.prog.liftsFinal) && (Try.pinned.checked.prog.make == some (Rows.fnExactResidentForRow).make)) = true := by kernel_rfl
theorem three1 : Try.pinned.checked.prog.mayEnter = true := by
  have h := three
  simp only [Bool.and_eq_true] at h
  exact h.1.1
theorem three2 : ((Rows.fnExactResidentForRow).lifted == Try.pinned.checked.prog.liftsFinal) = true := by
  have h := three
  simp only [Bool.and_eq_true] at h
  exact h.1.2
theorem three3 : (Try.pinned.checked.prog.make == some (Rows.fnExactResidentForRow).make) = true := by
  have h := three
  simp only [Bool.and_eq_true] at h
  exact h.2
theorem closed : joinedFacts Try.pinned.checked.prog 9 Try.f9 Rows.fnExactResidentForSpec Rows.fnExactResidentForRow = true := by
  unfold joinedFacts
  repeat' (with_reducible refine and2 ?_ ?_)
  all_goals (first | with_reducible exact three1 | with_reducible exact three2 | with_reducible exact three3 | (as_aux_lemma => kernel_rfl))
end Go.Proofs.Ytopckcppmpmcnaa.fnExactResidentFor
