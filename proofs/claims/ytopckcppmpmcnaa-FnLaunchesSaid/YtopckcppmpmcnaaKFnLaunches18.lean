/- The pure statement of FnExactSortedTimes. -/
import Derived.Test.YtopckcppmpmcnaaKFnLaunches17
namespace Go.Proofs.Ytopckcppmpmcnaa.Q
open Go.RowKit Go.Proofs.YtopckcppmpmcnaaW.PrintWords Go.Proofs.YtopckcppmpmcnaaW.PrintLast Go.Proofs.YtopckcppmpmcnaaW.PrintMore
set_option linter.unusedVariables false
set_option linter.unusedSimpArgs false

def sortZ (l : List Int) : List Int := if timesB l = true then downS l else []
theorem impl_SortedTimes_f (l : List Int) : impl_SortedTimes.f l = some (sortZ l) := by
  unfold impl_SortedTimes.f sortZ
  rw [impl_TimesOk_f, Option.bind_some]
  split <;> rfl
theorem FnExactSortedTimes : ∀ (l0 : List Int), l0.length ≤ maxLen → l0.length * 8 ≤ 140737488351232 → (∀ x ∈ l0, (Lit.int .i64 x).wf = true) → ∃ k, laws_FnExactSortedTimes.f k l0 = some true := by
  intro l hm _ _
  by_cases hb : l.length ≤ 1048576
  · have hz : (sortZ l).length ≤ 60 := by
      unfold sortZ
      split
      · rename_i h
        have := timesB_len' h
        rw [downS_len]; exact this
      · simp
    obtain ⟨K1, e1⟩ := toIntS_ev l (by omega)
    obtain ⟨K2, e2⟩ := spec_SortedTimes_ev l (by omega)
    obtain ⟨K4, e4⟩ := eqIntS_ev (sortZ l) (by omega)
    obtain ⟨K5, e5⟩ := eqIntS_ev l (by omega)
    obtain ⟨K6, e6⟩ := markIntS_ev l 1 (by omega) (by omega) (by omega)
    obtain ⟨K7, e7⟩ := markIntS_ev (sortZ l) 1 (by omega) (by omega) (by omega)
    obtain ⟨K8, e8⟩ := heldIntS_ev 1 (sortZ l).length (by omega) (by omega) (by omega)
    dsimp only at e1 e2 e4 e5 e6 e7 e8
    change ∀ k, K2 ≤ k → spec_SortedTimes.f k l = some (sortZ l) at e2
    refine ⟨K1 + K2 + K4 + K5 + K6 + K7 + K8 + 1, ?_⟩
    generalize hK : K1 + K2 + K4 + K5 + K6 + K7 + K8 = K
    have f1 := e1 (K + 1) (by omega)
    have f2 := e2 (K + 1) (by omega)
    have f3 := impl_SortedTimes_f l
    have f4 := e4 (K + 1) (by omega)
    have f5 := e5 (K + 1) (by omega)
    have f6 := e6 (K + 1) (by omega)
    have g1 := e1 K (by omega)
    have g4 := e4 K (by omega)
    have g7 := e7 K (by omega)
    have g8 := e8 K (by omega)
    unfold laws_FnExactSortedTimes.f
    rw [if_neg (by omega)]
    have hz : ¬ (1 + (l.length : Int) < 0) := by omega
    have hn : ¬ (1 + ((sortZ l).length : Int) < 0) := by omega
    simp only [f1, f2, f3, f4, f5, f6, Option.bind_some, if_true, laws_FnExactSortedTimes.j0, g1, g4, g7, g8, Bool.not_true, Bool.false_eq_true, if_false, hz, hn]
  · refine ⟨0, ?_⟩
    unfold laws_FnExactSortedTimes.f
    rw [if_pos (by omega)]

end Go.Proofs.Ytopckcppmpmcnaa.Q
