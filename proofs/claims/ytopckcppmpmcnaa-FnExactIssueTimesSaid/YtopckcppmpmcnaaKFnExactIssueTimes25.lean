/- The pure statement of FnExactIssueTimes. -/
import Derived.Test.YtopckcppmpmcnaaKFnExactIssueTimes24
namespace Go.Proofs.Ytopckcppmpmcnaa.Q
open Go.RowKit Go.Proofs.YtopckcppmpmcnaaW.PrintWords Go.Proofs.YtopckcppmpmcnaaW.PrintLast Go.Proofs.YtopckcppmpmcnaaW.PrintMore
set_option linter.unusedVariables false
set_option linter.unusedSimpArgs false

theorem itsZ_len (l : List S45) : (itsZ l).length ≤ l.length := by
  unfold itsZ
  split
  · rw [its_len]; exact Nat.le_refl _
  · simp
theorem FnExactIssueTimes : ∀ (l0 : List S63), l0.length ≤ maxLen → (∀ x ∈ l0, (Lit.int .i64 x.f0).wf = true ∧ (Lit.int .i64 x.f1).wf = true ∧ (Lit.int .i64 x.f2).wf = true ∧ (Lit.int .i64 x.f3).wf = true) → ∃ k, laws_FnExactIssueTimes.f k l0 = some true := by
  intro l hm _
  unfold maxLen at hm
  by_cases hb : l.length ≤ 1048576
  · have hn : (l.map toInsP).length ≤ 1048576 := by simpa using hb
    have hwl : (itsZ (l.map toInsP)).length ≤ 1048576 := Nat.le_trans (itsZ_len _) hn
    obtain ⟨K1, e1⟩ := toInsS_ev l hb
    obtain ⟨K2, e2⟩ := spec_IssueTimes_ev (l.map toInsP) (by omega)
    obtain ⟨K3, e3⟩ := impl_IssueTimes_ev (l.map toInsP) (by omega)
    obtain ⟨K4, e4⟩ := eqIntS_ev (itsZ (l.map toInsP)) (by omega)
    obtain ⟨K5, e5⟩ := eqInsS_ev (l.map toInsP) hn
    obtain ⟨K6, z, q, hq, e6⟩ := markInsS_ev (l.map toInsP) 1 (by omega) (by omega) hn
    obtain ⟨K7, e7⟩ := markIntS_ev (itsZ (l.map toInsP)) 1 (by omega) (by omega) (by omega)
    obtain ⟨K8, e8⟩ := heldIntS_ev 1 (itsZ (l.map toInsP)).length (by omega) (by omega) (by omega)
    dsimp only at e1 e2 e3 e4 e5 e6 e7 e8
    refine ⟨K1 + K2 + K3 + K4 + K5 + K6 + K7 + K8 + 1, ?_⟩
    generalize hK : K1 + K2 + K3 + K4 + K5 + K6 + K7 + K8 = K
    have f1 := e1 (K + 1) (by omega)
    have f2 := e2 (K + 1) (by omega)
    have f3 := e3 (K + 1) (by omega)
    have f4 := e4 (K + 1) (by omega)
    have f5 := e5 (K + 1) (by omega)
    have f6 := e6 (K + 1) (by omega)
    have g1 := e1 K (by omega)
    have g3 := e3 K (by omega)
    have g4 := e4 K (by omega)
    have g7 := e7 K (by omega)
    have g8 := e8 K (by omega)
    have hz : ¬ q < 0 := by omega
    have hn : ¬ (1 + ((itsZ (l.map toInsP)).length : Int) < 0) := by omega
    have c1 : ¬ 1048576 - (l.length : Int) < 0 := by omega
    unfold laws_FnExactIssueTimes.f laws_szInsS.f
    have hw : wrap64 (1048576 - (l.length : Int)) = 1048576 - (l.length : Int) := by unfold wrap64; omega
    rw [hw, if_neg c1, Option.bind_some, if_neg c1]
    simp only [f1, f2, f3, f4, f5, f6, Option.bind_some, if_true, laws_FnExactIssueTimes.j0, g1, g3, g4, g7, g8, Bool.not_true, Bool.false_eq_true, if_false, hz, hn]
  · refine ⟨0, ?_⟩
    unfold laws_FnExactIssueTimes.f laws_szInsS.f
    have hw : wrap64 (1048576 - (l.length : Int)) < 0 := by unfold wrap64; omega
    rw [if_pos hw]; simp

end Go.Proofs.Ytopckcppmpmcnaa.Q
