/- What the functions of the chapter on occupancy come to: valid sizes, the greatest number of blocks. -/
import Derived.Test.YtackpmnjmfelnaaKFnOccupancy10
namespace Go.Proofs.Ytackpmnjmfelnaa.Q
open Go.RowKit Go.Proofs.YtackpmnjmfelnaaW.PrintWords Go.Proofs.YtackpmnjmfelnaaW.PrintLast Go.Proofs.YtackpmnjmfelnaaW.PrintMore
set_option linter.unusedVariables false
set_option linter.unusedSimpArgs false

theorem wrap_in {x : Int} (h1 : -9223372036854775808 ≤ x) (h2 : x ≤ 9223372036854775807) : wrap64 x = x := by unfold wrap64; omega
def limB (a b c d : Int) : Bool := inR 0 1000000 a && inR 0 1000000 b && inR 0 1000000 c && inR 0 1000000 d
def needB (a b c : Int) : Bool := inR 1 1000 a && inR 0 1000 b && inR 0 1000 c
theorem impl_LimitsOk_f (a b c d : Int) : impl_LimitsOk.f a b c d = some (limB a b c d) := by
  unfold impl_LimitsOk.f limB
  cases h0 : inR 0 1000000 a <;> cases h1 : inR 0 1000000 b <;> cases h2 : inR 0 1000000 c <;> cases h3 : inR 0 1000000 d <;> simp [h0, h1, h2, h3]
theorem spec_LimitsOk_f (a b c d : Int) : spec_LimitsOk.f a b c d = some (limB a b c d) := by
  unfold limB
  simp only [spec_LimitsOk.f, l01In_f, Option.bind_some]
  cases h0 : inR 0 1000000 a <;> cases h1 : inR 0 1000000 b <;> cases h2 : inR 0 1000000 c <;> cases h3 : inR 0 1000000 d <;> simp
theorem impl_NeedOk_f (a b c : Int) : impl_NeedOk.f a b c = some (needB a b c) := by
  unfold needB
  simp only [impl_NeedOk.f, within_f, Option.bind_some]
  cases h0 : inR 1 1000 a <;> cases h1 : inR 0 1000 b <;> simp
theorem spec_NeedOk_f (a b c : Int) : spec_NeedOk.f a b c = some (needB a b c) := by
  unfold needB
  simp only [spec_NeedOk.f, l01In_f, Option.bind_some]
  cases h0 : inR 1 1000 a <;> cases h1 : inR 0 1000 b <;> simp
theorem areSizes_f (a b c d x y z : Int) : impl_areSizes.f a b c d x y z = some (limB a b c d && needB x y z) := by
  simp only [impl_areSizes.f, impl_LimitsOk_f, impl_NeedOk_f, Option.bind_some]
  cases limB a b c d <;> simp
theorem limB_iff {a b c d : Int} (h : limB a b c d = true) : (0 ≤ a ∧ a ≤ 1000000) ∧ (0 ≤ b ∧ b ≤ 1000000) ∧ (0 ≤ c ∧ c ≤ 1000000) ∧ (0 ≤ d ∧ d ≤ 1000000) := by
  simp only [limB, Bool.and_eq_true, inR_iff] at h
  omega
theorem needB_iff {a b c : Int} (h : needB a b c = true) : (1 ≤ a ∧ a ≤ 1000) ∧ (0 ≤ b ∧ b ≤ 1000) ∧ (0 ≤ c ∧ c ≤ 1000) := by
  simp only [needB, Bool.and_eq_true, inR_iff] at h
  omega

/-- The greatest number of blocks. -/
def most2 (lw lr lb nw nr : Int) : Int := if nr = 0 then mn lb (lw / nw) else mn (mn lb (lw / nw)) (lr / (nw * nr))
def mostZ (lw lr lo lb nw nr no : Int) : Int := if no = 0 then most2 lw lr lb nw nr else mn (most2 lw lr lb nw nr) (lo / no)
theorem le_mn (a b k : Int) : k ≤ mn a b ↔ k ≤ a ∧ k ≤ b := by unfold mn; split <;> omega
theorem mul_pos' {a b : Int} (ha : 1 ≤ a) (hb : 1 ≤ b) : 1 ≤ a * b := by
  have := Int.mul_le_mul ha hb (by omega) (by omega)
  simpa using this
theorem le_mostZ {lw lr lo lb nw nr no : Int} (hw : 1 ≤ nw) (hr : 0 ≤ nr) (ho : 0 ≤ no) (hlr : 0 ≤ lr) (hlo : 0 ≤ lo) (k : Int) :
    k ≤ mostZ lw lr lo lb nw nr no ↔ k ≤ lb ∧ k * nw ≤ lw ∧ k * nw * nr ≤ lr ∧ k * no ≤ lo := by
  have h1 : k ≤ mn lb (lw / nw) ↔ k ≤ lb ∧ k * nw ≤ lw := by rw [le_mn, Int.le_ediv_iff_mul_le (by omega)]
  have h2 : (k ≤ if nr = 0 then mn lb (lw / nw) else mn (mn lb (lw / nw)) (lr / (nw * nr))) ↔ (k ≤ lb ∧ k * nw ≤ lw) ∧ k * nw * nr ≤ lr := by
    by_cases e : nr = 0
    · rw [if_pos e, h1, e]; simp; intros; omega
    · rw [if_neg e, le_mn, h1, Int.le_ediv_iff_mul_le (by have := mul_pos' hw (show 1 ≤ nr by omega); omega), Int.mul_assoc]
  unfold mostZ most2
  by_cases e : no = 0
  · rw [if_pos e, h2, e, Int.mul_zero]
    constructor
    · intro h; exact ⟨h.1.1, h.1.2, h.2, hlo⟩
    · intro h; exact ⟨⟨h.1, h.2.1⟩, h.2.2.1⟩
  · rw [if_neg e, le_mn, h2, Int.le_ediv_iff_mul_le (by omega)]
    constructor
    · intro h; exact ⟨h.1.1.1, h.1.1.2, h.1.2, h.2⟩
    · intro h; exact ⟨⟨⟨h.1, h.2.1⟩, h.2.2.1⟩, h.2.2.2⟩
theorem tdiv_small {a b : Int} (ha : 0 ≤ a) (ha2 : a ≤ 1000000) (hb : 1 ≤ b) : wrap64 (Int.tdiv a b) = a / b := by
  rw [Int.tdiv_eq_ediv_of_nonneg ha]
  have h1 : 0 ≤ a / b := Int.ediv_nonneg ha (by omega)
  have h2 : a / b ≤ a := Int.ediv_le_self b ha
  exact wrap_in (by omega) (by omega)
theorem mul_small {a b A B : Int} (ha : 0 ≤ a) (ha2 : a ≤ A) (hb : 0 ≤ b) (hb2 : b ≤ B) : 0 ≤ a * b ∧ a * b ≤ A * B :=
  ⟨Int.mul_nonneg ha hb, Int.mul_le_mul ha2 hb2 hb (by omega)⟩
theorem impl_most_f {lw lr lo lb nw nr no : Int} (hl : limB lw lr lo lb = true) (hn : needB nw nr no = true) : impl_most.f lw lr lo lb nw nr no = some (mostZ lw lr lo lb nw nr no) := by
  obtain ⟨⟨a1, a2⟩, ⟨b1, b2⟩, ⟨c1, c2⟩, ⟨d1, d2⟩⟩ := limB_iff hl
  obtain ⟨⟨x1, x2⟩, ⟨y1, y2⟩, ⟨z1, z2⟩⟩ := needB_iff hn
  have hm := mul_small (show 0 ≤ nw by omega) x2 y1 y2
  have hmw : wrap64 (nw * nr) = nw * nr := wrap_in (by omega) (by omega)
  unfold impl_most.f mostZ most2
  rw [if_neg (show ¬ nw = 0 by omega), tdiv_small a1 a2 x1]
  by_cases e1 : nr = 0
  · rw [if_neg (show ¬ nr > 0 by omega), if_pos e1]
    by_cases e2 : no = 0
    · rw [if_neg (show ¬ no > 0 by omega), if_pos e2]
    · rw [if_pos (show no > 0 by omega), if_neg e2, if_neg e2, tdiv_small c1 c2 (by omega)]
  · have hp := mul_pos' x1 (show 1 ≤ nr by omega)
    rw [if_pos (show nr > 0 by omega), if_neg e1, hmw, if_neg (show ¬ nw * nr = 0 by omega), tdiv_small b1 b2 hp]
    by_cases e2 : no = 0
    · rw [if_neg (show ¬ no > 0 by omega), if_pos e2]
    · rw [if_pos (show no > 0 by omega), if_neg e2, if_neg e2, tdiv_small c1 c2 (by omega)]
theorem spec_most_f {lw lr lo lb nw nr no : Int} (hl : limB lw lr lo lb = true) (hn : needB nw nr no = true) :
    ((spec_l37Most.f lw nw lb).bind fun t268 => ((spec_l37Most.f lr (wrap64 (nw * nr)) t268).bind fun t269 => ((spec_l37Most.f lo no t269).bind fun t270 => (some t270)))) = some (mostZ lw lr lo lb nw nr no) := by
  obtain ⟨⟨a1, a2⟩, ⟨b1, b2⟩, ⟨c1, c2⟩, ⟨d1, d2⟩⟩ := limB_iff hl
  obtain ⟨⟨x1, x2⟩, ⟨y1, y2⟩, ⟨z1, z2⟩⟩ := needB_iff hn
  have hm := mul_small (show 0 ≤ nw by omega) x2 y1 y2
  have hmw : wrap64 (nw * nr) = nw * nr := wrap_in (by omega) (by omega)
  unfold mostZ most2
  have s1 : spec_l37Most.f lw nw lb = some (mn lb (lw / nw)) := by
    unfold spec_l37Most.f
    rw [if_neg (show ¬ nw = 0 by omega), tdiv_small a1 a2 x1]
  have s2 : ∀ t, spec_l37Most.f lr (wrap64 (nw * nr)) t = some (if nr = 0 then t else mn t (lr / (nw * nr))) := by
    intro t
    unfold spec_l37Most.f
    rw [hmw]
    by_cases e1 : nr = 0
    · rw [if_pos (by rw [e1]; simp), if_pos e1]
    · have hp := mul_pos' x1 (show 1 ≤ nr by omega)
      rw [if_neg (by omega), if_neg e1, tdiv_small b1 b2 hp]
  have s3 : ∀ t, spec_l37Most.f lo no t = some (if no = 0 then t else mn t (lo / no)) := by
    intro t
    unfold spec_l37Most.f
    by_cases e1 : no = 0
    · rw [if_pos e1, if_pos e1]
    · rw [if_neg e1, if_neg e1, tdiv_small c1 c2 (by omega)]
  rw [s1, Option.bind_some, s2, Option.bind_some, s3, Option.bind_some]
def perCore (lw lr lo lb nw nr no : Int) : Int := if limB lw lr lo lb && needB nw nr no then mostZ lw lr lo lb nw nr no else -1
theorem impl_BlocksPerCore_f (lw lr lo lb nw nr no : Int) : impl_BlocksPerCore.f lw lr lo lb nw nr no = some (perCore lw lr lo lb nw nr no) := by
  unfold perCore
  simp only [impl_BlocksPerCore.f, areSizes_f, Option.bind_some]
  by_cases h : (limB lw lr lo lb && needB nw nr no) = true
  · have h' := h
    rw [Bool.and_eq_true] at h'
    rw [if_pos h, if_pos h, impl_most_f h'.1 h'.2, Option.bind_some]
  · rw [if_neg h, if_neg h]
theorem spec_BlocksPerCore_f (k : Nat) (lw lr lo lb nw nr no : Int) : spec_BlocksPerCore.f (k + 1) lw lr lo lb nw nr no = some (perCore lw lr lo lb nw nr no) := by
  unfold perCore
  simp only [spec_BlocksPerCore.f, spec_LimitsOk_f, spec_NeedOk_f, Option.bind_some, spec_BlocksPerCore.j0]
  by_cases h1 : limB lw lr lo lb = true
  · by_cases h2 : needB nw nr no = true
    · rw [if_pos h1, h2, if_neg (by simp), spec_most_f h1 h2, if_pos (by simp [h1])]
    · rw [if_pos h1, Bool.eq_false_iff.mpr h2]; simp
  · rw [if_neg h1, Bool.eq_false_iff.mpr h1]; simp
theorem most_range {lw lr lo lb nw nr no : Int} (hl : limB lw lr lo lb = true) (hn : needB nw nr no = true) : 0 ≤ mostZ lw lr lo lb nw nr no ∧ mostZ lw lr lo lb nw nr no ≤ 1000000 := by
  obtain ⟨⟨a1, a2⟩, ⟨b1, b2⟩, ⟨c1, c2⟩, ⟨d1, d2⟩⟩ := limB_iff hl
  obtain ⟨⟨x1, x2⟩, ⟨y1, y2⟩, ⟨z1, z2⟩⟩ := needB_iff hn
  refine ⟨(le_mostZ x1 y1 z1 b1 c1 0).2 ⟨d1, by simpa using a1, by simpa using b1, by simpa using c1⟩, ?_⟩
  have := ((le_mostZ x1 y1 z1 b1 c1 (mostZ lw lr lo lb nw nr no)).1 (Int.le_refl _)).1
  omega

end Go.Proofs.Ytackpmnjmfelnaa.Q
