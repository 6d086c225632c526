/- The closed facts of the statement FnExactParseAct: in a text of their own, for their memory. -/
import Derived.Test.YthpmdppkladbfaaDoorRows
import Derived.WalkKit
import Derived.ProofKit
namespace Go.Proofs.YthpmdppkladbfaaDoor.fnExactParseAct
theorem and2 {a b : Bool} (h1 : a = true) (h2 : b = true) : (a && b) = true := by rw [h1, h2]; rfl
theorem three : (Tryd.pinned.checked.prog.mayEnter && ((Rows.fnExactParseActRow).lifted == Tryd.pinned.checked.prog.liftsFinal) && (Tryd.pinned.checked.prog.make == some (Rows.fnExactParseActRow).make)) = true := by kernel_rfl
theorem three1 : Tryd.pinned.checked.prog.mayEnter = true := by
  have h := three
  simp only [Bool.and_eq_true] at h
  exact h.1.1
theorem three2 : ((Rows.fnExactParseActRow).lifted == Tryd.pinned.checked.prog.liftsFinal) = true := by
  have h := three
  simp only [Bool.and_eq_true] at h
  exact h.1.2
theorem three3 : (Tryd.pinned.checked.prog.make == some (Rows.fnExactParseActRow).make) = true := by
  have h := three
  simp only [Bool.and_eq_true] at h
  exact h.2
theorem closed : joinedFacts Tryd.pinned.checked.prog 5 Tryd.f5 Rows.fnExactParseActSpec Rows.fnExactParseActRow = true := by
  unfold joinedFacts
  repeat' (with_reducible refine and2 ?_ ?_)
  all_goals (first | with_reducible exact three1 | with_reducible exact three2 | with_reducible exact three3 | (as_aux_lemma => kernel_rfl))
end Go.Proofs.YthpmdppkladbfaaDoor.fnExactParseAct
