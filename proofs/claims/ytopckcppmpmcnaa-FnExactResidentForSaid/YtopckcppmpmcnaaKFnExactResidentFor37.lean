/- The pure statement of FnExactResidentFor. -/
import Derived.Test.YtopckcppmpmcnaaKFnExactResidentFor36
namespace Go.Proofs.Ytopckcppmpmcnaa.Q
open Go.RowKit Go.Proofs.YtopckcppmpmcnaaW.PrintWords Go.Proofs.YtopckcppmpmcnaaW.PrintLast Go.Proofs.YtopckcppmpmcnaaW.PrintMore
set_option linter.unusedVariables false
set_option linter.unusedSimpArgs false

theorem FnExactResidentFor : ∀ (l0 : List S63), l0.length ≤ maxLen → (∀ x ∈ l0, (Lit.int .i64 x.f0).wf = true ∧ (Lit.int .i64 x.f1).wf = true ∧ (Lit.int .i64 x.f2).wf = true ∧ (Lit.int .i64 x.f3).wf = true) → ∃ k, laws_FnExactResidentFor.f k l0 = some true := by
  intro l hm _
  unfold maxLen at hm
  by_cases hb : l.length ≤ 1048576
  · have hn : (l.map toInsP).length ≤ 1048576 := by simpa using hb
    obtain ⟨K1, e1⟩ := toInsS_ev l hb
    obtain ⟨r, _, ⟨K3, e3⟩, ⟨K2, e2⟩⟩ := residI (l.map toInsP) hn
    obtain ⟨K5, e5⟩ := eqInsS_ev (l.map toInsP) hn
    dsimp only at e1 e2 e3 e5
    refine ⟨K1 + K2 + K3 + K5, ?_⟩
    have f1 := e1 (K1 + K2 + K3 + K5) (by omega)
    have f2 := e2 (K1 + K2 + K3 + K5) (by omega)
    have f3 := e3 (K1 + K2 + K3 + K5) (by omega)
    have f5 := e5 (K1 + K2 + K3 + K5) (by omega)
    unfold laws_FnExactResidentFor.f laws_szInsS.f
    have hw : wrap64 (1048576 - (l.length : Int)) = 1048576 - (l.length : Int) := by unfold wrap64; omega
    rw [hw, if_neg (by omega), Option.bind_some, if_neg (by omega)]
    simp only [f1, f2, f3, f5, Option.bind_some, if_true]
  · refine ⟨0, ?_⟩
    unfold laws_FnExactResidentFor.f laws_szInsS.f
    have hw : wrap64 (1048576 - (l.length : Int)) < 0 := by unfold wrap64; omega
    rw [if_pos hw]; simp

end Go.Proofs.Ytopckcppmpmcnaa.Q
