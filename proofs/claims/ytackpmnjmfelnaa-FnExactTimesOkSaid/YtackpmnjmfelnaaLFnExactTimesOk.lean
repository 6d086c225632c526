/- The pure statement of FnExactTimesOk. -/
import Derived.Test.YtackpmnjmfelnaaQ3
import Derived.Test.YtackpmnjmfelnaaPTimes
namespace Go.Proofs.Ytackpmnjmfelnaa.Q
open Go.RowKit Go.Proofs.YtackpmnjmfelnaaW.PrintWords Go.Proofs.YtackpmnjmfelnaaW.PrintLast Go.Proofs.YtackpmnjmfelnaaW.PrintMore
set_option linter.unusedVariables false
set_option linter.unusedSimpArgs false

theorem FnExactTimesOk : ∀ (l0 : List Int), l0.length ≤ maxLen → l0.length * 8 ≤ 140737488351232 → (∀ x ∈ l0, (Lit.int .i64 x).wf = true) → ∃ k, laws_FnExactTimesOk.f k l0 = some true := by
  intro l _ hl _
  have e1 := toIntS_ev l (by omega)
  obtain ⟨k, h1, h2, h3⟩ : ∃ k, laws_toIntS.f k l = some l ∧ spec_TimesOk.f k l = some (timesB l) ∧ laws_eqIntS.f k l l = some true := by
    obtain ⟨K1, a1⟩ := e1
    obtain ⟨K2, a2⟩ := spec_TimesOk_ev l (by omega)
    obtain ⟨K3, a3⟩ := eqIntS_ev l (by omega)
    exact ⟨K1 + K2 + K3, a1 _ (by omega), a2 _ (by omega), a3 _ (by omega)⟩
  refine ⟨k, ?_⟩
  unfold laws_FnExactTimesOk.f
  by_cases hb : (l.length : Int) > 1048576
  · rw [if_pos hb]
  · rw [if_neg hb, h1]
    simp only [Option.bind_some, h1, h2, h3, impl_TimesOk_f]
    simp

end Go.Proofs.Ytackpmnjmfelnaa.Q
