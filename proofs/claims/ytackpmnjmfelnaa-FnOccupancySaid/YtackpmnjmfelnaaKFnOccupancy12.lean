/- The pure statement of FnOccupancy. -/
import Derived.Test.YtackpmnjmfelnaaKFnOccupancy11
namespace Go.Proofs.Ytackpmnjmfelnaa.Q
open Go.RowKit Go.Proofs.YtackpmnjmfelnaaW.PrintWords Go.Proofs.YtackpmnjmfelnaaW.PrintLast Go.Proofs.YtackpmnjmfelnaaW.PrintMore
set_option linter.unusedVariables false
set_option linter.unusedSimpArgs false

theorem l01PickInt_f (b : List Int) (i h : Int) (l : List Int) (hi : 0 ≤ i) (hb : b.length ≤ 140737488351232) (hl : 0 < l.length) :
    ∃ v i' h', spec_l01PickInt.f b i h l = some (v, i', h') ∧ 0 ≤ i' ∧ v ∈ l := by
  unfold spec_l01PickInt.f
  obtain ⟨v, i', h', e, hi', _, hv⟩ := l01Below_f b i h (l.length : Int) hi hb
  have hv := hv (by omega)
  rw [e, Option.bind_some]
  dsimp only
  rw [if_pos hv.1, if_pos hv.2]
  refine ⟨_, _, _, rfl, hi', ?_⟩
  obtain ⟨j, rfl⟩ := Int.eq_ofNat_of_zero_le hv.1
  have hj : j < l.length := by omega
  simp [rd, List.getD_eq_getElem?_getD, hj]
theorem FnOccupancy : ∀ (l0 : List Int), l0.length ≤ maxLen → l0.length * 1 ≤ 140737488351232 → (∀ x ∈ l0, (Lit.int .u8 x).wf = true) → ∃ k, laws_FnOccupancy.f k l0 = some true := by
  intro l _ hl _
  obtain ⟨h, hn⟩ := l01New_ev l (by omega)
  obtain ⟨k, hk⟩ := hn.rounds
  refine ⟨k, ?_⟩
  unfold laws_FnOccupancy.f laws_big.f
  rw [Option.bind_some]
  by_cases hb : decide ((l.length : Int) > 1048576) = true
  · rw [if_pos hb]
  rw [if_neg hb]
  have hbl : l.length ≤ 140737488351232 := by omega
  obtain ⟨a, i1, h1, e1, c1, m1⟩ := l01PickInt_f l 0 h [48, 64, 8, 0] (by omega) hbl (by decide)
  obtain ⟨b, i2, h2, e2, c2, m2⟩ := l01PickInt_f l i1 h1 [2048, 500, 64, 0] c1 hbl (by decide)
  obtain ⟨c, i3, h3, e3, c3, m3⟩ := l01PickInt_f l i2 h2 [1024, 100, 32, 0] c2 hbl (by decide)
  obtain ⟨d, i4, h4, e4, c4, m4⟩ := l01PickInt_f l i3 h3 [16, 8, 1, 0] c3 hbl (by decide)
  obtain ⟨x, i5, h5, e5, c5, _, m5⟩ := l01Below_f l i4 h4 8 c4 hbl
  obtain ⟨y, i6, h6, e6, c6, m6⟩ := l01PickInt_f l i5 h5 [32, 16, 0, 100] c5 hbl (by decide)
  obtain ⟨z, i7, h7, e7, c7, m7⟩ := l01PickInt_f l i6 h6 [0, 10, 64, 100] c6 hbl (by decide)
  have m5 := m5 (by omega)
  have hw : wrap64 (1 + x) = 1 + x := by unfold wrap64; omega
  have hd : spec_DrawNeeds.f k l = some (a, b, c, d, 1 + x, y, z) := by
    unfold spec_DrawNeeds.f
    rw [hk, Option.bind_some]
    simp only [spec_l37Limits.f, spec_l37Need.f, e1, e2, e3, e4, e5, e6, e7, Option.bind_some, hw]
  simp only [List.mem_cons, List.not_mem_nil, or_false] at m1 m2 m3 m4 m6 m7
  have hlim : limB a b c d = true := by simp only [limB, Bool.and_eq_true, inR_iff]; omega
  have hneed : needB (1 + x) y z = true := by simp only [needB, Bool.and_eq_true, inR_iff]; omega
  obtain ⟨⟨a1, a2⟩, ⟨b1, b2⟩, ⟨c1', c2'⟩, ⟨d1, d2⟩⟩ := limB_iff hlim
  obtain ⟨⟨x1, x2⟩, ⟨y1, y2⟩, ⟨z1, z2⟩⟩ := needB_iff hneed
  have hr := most_range hlim hneed
  have hcore : perCore a b c d (1 + x) y z = mostZ a b c d (1 + x) y z := by unfold perCore; rw [if_pos (by simp [hlim, hneed])]
  have hle := le_mostZ (lw := a) (lr := b) (lo := c) (lb := d) x1 y1 z1 b1 c1'
  rw [hd, Option.bind_some]
  dsimp only
  rw [impl_BlocksPerCore_f, Option.bind_some, hcore]
  have hm := impl_most_f hlim hneed
  generalize mostZ a b c d (1 + x) y z = m at *
  have hfit := (hle m).1 (Int.le_refl _)
  have hno : ¬ (m + 1 ≤ d ∧ (m + 1) * (1 + x) ≤ a ∧ (m + 1) * (1 + x) * y ≤ b ∧ (m + 1) * z ≤ c) := by rw [← hle]; omega
  generalize 1 + x = q at *
  -- the wraps
  have w1 : ∀ t : Int, 0 ≤ t → t ≤ 1000001 → wrap64 (t * q) = t * q ∧ wrap64 (t * q * y) = t * q * y ∧ wrap64 (t * z) = t * z := by
    intro t t0 t1
    have m1 := mul_small t0 t1 (show 0 ≤ q by omega) x2
    have m2 := mul_small m1.1 m1.2 y1 y2
    have m3 := mul_small t0 t1 z1 z2
    exact ⟨wrap_in (by omega) (by omega), wrap_in (by omega) (by omega), wrap_in (by omega) (by omega)⟩
  have hF : ∀ t : Int, 0 ≤ t → t ≤ d → impl_Fits.f a b c d q y z t = some (decide (t * q ≤ a ∧ t * q * y ≤ b ∧ t * z ≤ c)) := by
    intro t t0 t1
    obtain ⟨u1, u2, u3⟩ := w1 t t0 (by omega)
    have hin : inR 0 d t = true := (inR_iff _ _ _).2 ⟨t0, t1⟩
    unfold impl_Fits.f impl_lacking.f
    simp only [areSizes_f, hlim, hneed, Bool.and_self, Option.bind_some, if_true, within_f, hin, u1, u2, u3]
    rw [if_neg (show ¬ t > d by omega)]
    by_cases g1 : t * q > a
    · rw [if_pos g1]; simp; omega
    · rw [if_neg g1]
      by_cases g2 : t * q * y > b
      · rw [if_pos g2]; simp; omega
      · rw [if_neg g2]
        by_cases g3 : t * z > c
        · rw [if_pos g3]; simp; omega
        · rw [if_neg g3]; simp; omega
  have hF1 : impl_Fits.f a b c d q y z (m + 1) = some false := by
    by_cases g : m + 1 ≤ d
    · rw [hF (m + 1) (by omega) g, decide_eq_false (fun h => hno ⟨g, h⟩)]
    · have hin : inR 0 d (m + 1) = false := (inR_false _ _ _).2 (by omega)
      unfold impl_Fits.f
      simp only [areSizes_f, hlim, hneed, Bool.and_self, Option.bind_some, if_true, within_f, hin, Bool.false_eq_true, if_false]
  have hocc : ∃ o, impl_OccupancyOf.f a b c d q y z = some o ∧ 0 ≤ o ∧ o ≤ 1000 := by
    unfold impl_OccupancyOf.f
    simp only [areSizes_f, hlim, hneed, Bool.and_self, Option.bind_some, if_true, hm]
    by_cases ha : a = 0
    · rw [if_pos ha]; exact ⟨0, rfl, by omega, by omega⟩
    · rw [if_neg ha]
      refine ⟨_, rfl, ?_⟩
      have g1 := mul_small (show 0 ≤ m by omega) (show m ≤ 1000000 by omega) (show 0 ≤ q by omega) x2
      have e1 : wrap64 (1000 * m) = 1000 * m := wrap_in (by omega) (by omega)
      have e2 : wrap64 (1000 * m * q) = 1000 * (m * q) := by rw [Int.mul_assoc]; exact wrap_in (by omega) (by omega)
      rw [e1, e2, Int.tdiv_eq_ediv_of_nonneg (by omega)]
      have g2 : 0 ≤ 1000 * (m * q) / a := Int.ediv_nonneg (by omega) (by omega)
      have g3 : 1000 * (m * q) / a ≤ 1000 := by
        refine Int.le_of_lt_add_one (Int.ediv_lt_of_lt_mul (by omega) ?_)
        have := hfit.2.1
        omega
      rw [wrap_in (by omega) (by omega)]
      exact ⟨g2, g3⟩
  have hby : ∃ s, impl_LimitedBy.f a b c d q y z = some s ∧ ¬ s.toList = ([] : List UInt8) := by
    unfold impl_LimitedBy.f impl_lacking.f
    have hw1 : wrap64 (m + 1) = m + 1 := wrap_in (by omega) (by omega)
    obtain ⟨u1, u2, u3⟩ := w1 (m + 1) (by omega) (by omega)
    simp only [areSizes_f, hlim, hneed, Bool.and_self, Option.bind_some, if_true, hm, hw1, u1, u2, u3]
    by_cases g0 : m + 1 > d
    · rw [if_pos g0]; exact ⟨_, rfl, by simp⟩
    rw [if_neg g0]
    by_cases g1 : (m + 1) * q > a
    · rw [if_pos g1]; exact ⟨_, rfl, by simp⟩
    rw [if_neg g1]
    by_cases g2 : (m + 1) * q * y > b
    · rw [if_pos g2]; exact ⟨_, rfl, by simp⟩
    rw [if_neg g2]
    by_cases g3 : (m + 1) * z > c
    · rw [if_pos g3]; exact ⟨_, rfl, by simp⟩
    exact absurd ⟨by omega, by omega, by omega, by omega⟩ hno
  obtain ⟨o, ho, ho0, ho1⟩ := hocc
  obtain ⟨s, hs, hs0⟩ := hby
  have hw1 : wrap64 (m + 1) = m + 1 := wrap_in (by omega) (by omega)
  rw [ho, Option.bind_some, if_pos (show m ≥ 0 by omega), hF m (by omega) (by omega), Option.bind_some, if_pos (decide_eq_true hfit.2), hw1, hF1, Option.bind_some, if_neg (by simp),
    hF 0 (by omega) (by omega), Option.bind_some, if_pos (decide_eq_true ⟨by omega, by omega, by omega⟩), hs, Option.bind_some, if_neg hs0, if_pos (show o ≥ 0 by omega), if_pos ho1, impl_LimitsOk_f, Option.bind_some, if_pos hlim, impl_NeedOk_f, Option.bind_some, hneed]

end Go.Proofs.Ytackpmnjmfelnaa.Q
