/- The pure statement of FnExactLeastSpan. -/
import Derived.Test.YtackpmnjmfelnaaQ3
import Derived.Test.YtackpmnjmfelnaaPTimes
namespace Go.Proofs.Ytackpmnjmfelnaa.Q
open Go.RowKit Go.Proofs.YtackpmnjmfelnaaW.PrintWords Go.Proofs.YtackpmnjmfelnaaW.PrintLast Go.Proofs.YtackpmnjmfelnaaW.PrintMore
set_option linter.unusedVariables false
set_option linter.unusedSimpArgs false

/-- Both loops go in step. -/
theorem least_same (l : List Int) (c : Int) : ∀ (k : Nat) (m s i : Int), spec_LeastSpan.l0 k l c m s i = impl_LeastSpan.l0 k c s m l (l.length : Int) i := by
  intro k
  induction k with
  | zero => intro m s i; simp [spec_LeastSpan.l0, impl_LeastSpan.l0]
  | succ k ih =>
    intro m s i
    simp only [spec_LeastSpan.l0, impl_LeastSpan.l0]
    by_cases h : i < (l.length : Int)
    · rw [if_pos h, if_pos h]
      by_cases h0 : 0 ≤ i
      · rw [if_pos h0, if_pos h0, if_pos h]; exact ih _ _ _
      · rw [if_neg h0, if_neg h0]
    · rw [if_neg h, if_neg h]
theorem least_ends (l : List Int) (c : Int) (hc : ¬ c = 0) (hl : l.length ≤ 35184372088832) : ∃ K r, ∀ k, K ≤ k → impl_LeastSpan.l0 k c 0 0 l (l.length : Int) 0 = some r := by
  have key : ∀ d (i : Nat) (s m : Int), i ≤ l.length → l.length - i = d → ∃ r, ∀ k, d < k → impl_LeastSpan.l0 k c s m l (l.length : Int) i = some r := by
    intro d
    induction d with
    | zero =>
      intro i s m hi hd
      refine ⟨mx m (wrap64 (Int.tdiv (wrap64 ((wrap64 (s + c)) - 1)) c)), fun k hk => ?_⟩
      · obtain ⟨k, rfl⟩ : ∃ m, k = m + 1 := ⟨k - 1, by omega⟩
        simp only [impl_LeastSpan.l0]
        rw [if_neg (by omega), if_neg hc]
    | succ d ih =>
      intro i s m hi hd
      obtain ⟨r, hr⟩ := ih (i + 1) (wrap64 (s + rd l i)) (mx m (rd l i)) (by omega) (by omega)
      refine ⟨r, fun k hk => ?_⟩
      obtain ⟨k, rfl⟩ : ∃ m, k = m + 1 := ⟨k - 1, by omega⟩
      have hlt : i < l.length := by omega
      simp only [impl_LeastSpan.l0]
      rw [if_pos (by omega), if_pos (by omega), if_pos (by omega), wrap_succ hlt (by omega)]
      exact hr k (by omega)
  obtain ⟨r, hr⟩ := key l.length 0 0 0 (by omega) (by omega)
  exact ⟨l.length + 1, r, fun k hk => hr k (by omega)⟩
theorem FnExactLeastSpan : ∀ (l0 : List Int) (a1 : Int), l0.length ≤ maxLen → l0.length * 8 ≤ 140737488351232 → (∀ x ∈ l0, (Lit.int .i64 x).wf = true) → (Lit.int .i64 a1).wf = true → ∃ k, laws_FnExactLeastSpan.f k l0 a1 = some true := by
  intro l c _ hl _ _
  obtain ⟨r, K, hr⟩ : ∃ r K, ∀ k, K ≤ k → spec_LeastSpan.f (k + 1) l c = some r ∧ impl_LeastSpan.f (k + 1) l c = some r := by
    obtain ⟨K1, h1⟩ := spec_TimesOk_ev l (by omega)
    dsimp only at h1
    by_cases hb : (timesB l && inR 1 8 c) = true
    · have hb' := hb
      rw [Bool.and_eq_true] at hb'
      have hc := (inR_iff _ _ _).1 hb'.2
      obtain ⟨K2, r, h2⟩ := least_ends l c (by omega) (by omega)
      refine ⟨r, K1 + K2, fun k hk => ⟨?_, ?_⟩⟩
      · unfold spec_LeastSpan.f
        rw [h1 (k + 1) (by omega), Option.bind_some, if_pos hb'.1, l01In_f, Option.bind_some, hb'.2]
        simp only [spec_LeastSpan.j0, Bool.not_true, Bool.false_eq_true, if_false]
        rw [least_same]
        exact h2 k (by omega)
      · unfold impl_LeastSpan.f
        simp only [impl_areCores.f, impl_TimesOk_f, Option.bind_some, within_f, hb'.1, hb'.2, if_true]
        exact h2 (k + 1) (by omega)
    · refine ⟨-1, K1, fun k hk => ⟨?_, ?_⟩⟩
      · unfold spec_LeastSpan.f
        rw [h1 (k + 1) (by omega), Option.bind_some, l01In_f, Option.bind_some]
        by_cases ht : timesB l = true
        · rw [if_pos ht]
          have : inR 1 8 c = false := by rw [ht] at hb; simpa using hb
          simp [spec_LeastSpan.j0, this]
        · rw [if_neg ht]; simp [spec_LeastSpan.j0]
      · unfold impl_LeastSpan.f
        simp only [impl_areCores.f, impl_TimesOk_f, Option.bind_some, within_f]
        by_cases ht : timesB l = true
        · have : inR 1 8 c = false := by rw [ht] at hb; simpa using hb
          simp [ht, this]
        · simp [ht]
  obtain ⟨K1, e1⟩ := toIntS_ev l (by omega)
  obtain ⟨K3, e3⟩ := eqIntS_ev l (by omega)
  dsimp only at e1 e3
  have hk := hr (K + K1 + K3) (by omega)
  refine ⟨K + K1 + K3 + 1, ?_⟩
  unfold laws_FnExactLeastSpan.f
  by_cases hb : (l.length : Int) > 1048576
  · rw [if_pos hb]
  · rw [if_neg hb, e1 _ (by omega)]
    simp only [Option.bind_some, hk.1, hk.2, e3 (K + K1 + K3 + 1) (by omega), if_true]

end Go.Proofs.Ytackpmnjmfelnaa.Q
