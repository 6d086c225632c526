/- The pure statement of FnExactAssignBlocks. -/
import Derived.Test.YtopckcppmpmcnaaKFnExactAssignBlocks09
namespace Go.Proofs.Ytopckcppmpmcnaa.Q
open Go.RowKit Go.Proofs.YtopckcppmpmcnaaW.PrintWords Go.Proofs.YtopckcppmpmcnaaW.PrintLast Go.Proofs.YtopckcppmpmcnaaW.PrintMore
set_option linter.unusedVariables false
set_option linter.unusedSimpArgs false

theorem FnExactAssignBlocks : ∀ (l0 : List Int) (a1 : Int), l0.length ≤ maxLen → l0.length * 8 ≤ 140737488351232 → (∀ x ∈ l0, (Lit.int .i64 x).wf = true) → (Lit.int .i64 a1).wf = true → ∃ k, laws_FnExactAssignBlocks.f k l0 a1 = some true := by
  intro l c hm _ _ _
  by_cases hb : l.length ≤ 1048576
  · have hz : (asgZ l c).length ≤ 60 := by
      unfold asgZ
      split
      · rename_i h
        have := timesB_len h.1
        rw [asg_len]; simpa using this
      · simp
    obtain ⟨K1, e1⟩ := toIntS_ev l (by omega)
    obtain ⟨K2, e2⟩ := spec_AssignBlocks_ev l c (by omega)
    obtain ⟨K3, e3⟩ := impl_AssignBlocks_ev l c
    obtain ⟨K4, e4⟩ := eqIntS_ev (asgZ l c) (by omega)
    obtain ⟨K5, e5⟩ := eqIntS_ev l (by omega)
    obtain ⟨K6, e6⟩ := markIntS_ev l 1 (by omega) (by omega) (by omega)
    obtain ⟨K7, e7⟩ := markIntS_ev (asgZ l c) 1 (by omega) (by omega) (by omega)
    obtain ⟨K8, e8⟩ := heldIntS_ev 1 (asgZ l c).length (by omega) (by omega) (by omega)
    dsimp only at e1 e2 e3 e4 e5 e6 e7 e8
    refine ⟨K1 + K2 + K3 + K4 + K5 + K6 + K7 + K8 + 1, ?_⟩
    generalize hK : K1 + K2 + K3 + K4 + K5 + K6 + K7 + K8 = K
    have f1 := e1 (K + 1) (by omega)
    have f2 := e2 (K + 1) (by omega)
    have f3 := e3 (K + 1) (by omega)
    have f4 := e4 (K + 1) (by omega)
    have f5 := e5 (K + 1) (by omega)
    have f6 := e6 (K + 1) (by omega)
    have g1 := e1 K (by omega)
    have g3 := e3 K (by omega)
    have g4 := e4 K (by omega)
    have g7 := e7 K (by omega)
    have g8 := e8 K (by omega)
    unfold laws_FnExactAssignBlocks.f
    rw [if_neg (by omega)]
    have hz : ¬ (1 + (l.length : Int) < 0) := by omega
    have hn : ¬ (1 + ((asgZ l c).length : Int) < 0) := by omega
    simp only [f1, f2, f3, f4, f5, f6, Option.bind_some, if_true, laws_FnExactAssignBlocks.j0, g1, g3, g4, g7, g8, Bool.not_true, Bool.false_eq_true, if_false, hz, hn]
  · refine ⟨0, ?_⟩
    unfold laws_FnExactAssignBlocks.f
    rw [if_pos (by omega)]

end Go.Proofs.Ytopckcppmpmcnaa.Q
