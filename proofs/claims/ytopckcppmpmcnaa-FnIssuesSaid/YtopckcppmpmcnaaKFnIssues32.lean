/- What a reader of draws hands out: numbers in range. -/
import Derived.Test.YtopckcppmpmcnaaKFnIssues31
import Derived.Laws.BitsLemmas
namespace Go.Proofs.Ytopckcppmpmcnaa.Q
open Go.RowKit Go.Proofs.YtopckcppmpmcnaaW.PrintWords Go.Proofs.YtopckcppmpmcnaaW.PrintLast Go.Proofs.YtopckcppmpmcnaaW.PrintMore
set_option linter.unusedVariables false
set_option linter.unusedSimpArgs false

theorem and255 (n : Int) : Go.bits .and .i64 n 255 = n % 256 := by
  have h127 : (BitVec.ofInt 64 255).toNat = 2 ^ 8 - 1 := by decide
  have key : (BitVec.ofInt 64 n &&& BitVec.ofInt 64 255).toNat = (n % ((2 ^ 64 : Nat) : Int)).toNat % 2 ^ 8 := by
    rw [BitVec.toNat_and, BitVec.toNat_ofInt, h127, Nat.and_two_pow_sub_one_eq_mod]
  show IntKind.i64.wrap ((BitVec.ofInt 64 n &&& BitVec.ofInt 64 255).toNat : Nat) = n % 256
  rw [key, IntKind.wrap_i64]
  omega
theorem l01New_ev (l : List Int) (hl : l.length ≤ 140737488351232) : ∃ h, Ev (fun k => spec_l01New.f k l) (l, 0, h) := by
  have key : ∀ d (i : Nat) (h : Int), i ≤ l.length → l.length - i = d → ∃ r, Ev (fun k => spec_l01New.l0 k l h i) (l, 0, r) := by
    intro d
    induction d with
    | zero =>
      intro i h hi hd
      exact ⟨h, Ev.step (f := fun _ => some (l, 0, h)) (fun k => by simp only [spec_l01New.l0]; rw [if_neg (by omega)]) (Ev.now _)⟩
    | succ d ih =>
      intro i h hi hd
      by_cases h4 : (i : Int) < 4000
      · obtain ⟨r, hr⟩ := ih (i + 1) (Go.bits .and .i64 (wrap64 ((wrap64 ((wrap64 (h * 131)) + (wrap64 (rd l i)))) + 7)) 1073741823) (by omega) (by omega)
        have hw : wrap64 ((i : Int) + 1) = ((i + 1 : Nat) : Int) := by unfold wrap64; omega
        refine ⟨r, Ev.step (fun k => ?_) hr⟩
        simp only [spec_l01New.l0]; rw [if_pos (by omega), if_pos h4, if_pos (by omega), hw]
      · exact ⟨h, Ev.step (f := fun _ => some (l, 0, h)) (fun k => by simp only [spec_l01New.l0]; rw [if_pos (by omega), if_neg h4]) (Ev.now _)⟩
  obtain ⟨r, hr⟩ := key l.length 0 (wrap64 (98561 + (l.length : Int))) (by omega) (by omega)
  exact ⟨r, hr⟩
/-- A byte: from 0 to 255. The place in the bytes doesn't go below 0. -/
theorem l01Byte_f (b : List Int) (i h : Int) (hi : 0 ≤ i) (hb : b.length ≤ 140737488351232) : ∃ v i' h', spec_l01Byte.f b i h = some (v, i', h') ∧ 0 ≤ v ∧ v ≤ 255 ∧ 0 ≤ i' := by
  unfold spec_l01Byte.f
  by_cases h1 : i < (b.length : Int)
  · rw [if_pos h1, if_pos hi]
    refine ⟨_, _, _, rfl, ?_, ?_, ?_⟩
    · rw [and255]; omega
    · rw [and255]; omega
    · unfold wrap64; omega
  · rw [if_neg h1]
    refine ⟨_, _, _, rfl, ?_, ?_, hi⟩
    · rw [and255]; omega
    · rw [and255]; omega
theorem tmod_range (x n : Int) (hx : 0 ≤ x) (hn : 0 < n) : 0 ≤ Int.tmod x n ∧ Int.tmod x n < n := ⟨Int.tmod_nonneg _ hx, Int.tmod_lt_of_pos _ hn⟩
/-- A number below n; 0 where n isn't above 0. -/
theorem l01Below_f (b : List Int) (i h n : Int) (hi : 0 ≤ i) (hb : b.length ≤ 140737488351232) :
    ∃ v i' h', spec_l01Below.f b i h n = some (v, i', h') ∧ 0 ≤ i' ∧ (n ≤ 0 → v = 0) ∧ (0 < n → 0 ≤ v ∧ v < n) := by
  unfold spec_l01Below.f
  by_cases h0 : n ≤ 0
  · rw [if_pos h0]; exact ⟨0, i, h, rfl, hi, fun _ => rfl, fun h => by omega⟩
  · rw [if_neg h0]
    by_cases h1 : n ≤ 256
    · rw [if_pos h1]
      obtain ⟨v, i', h', e, hv0, hv1, hi'⟩ := l01Byte_f b i h hi hb
      rw [e, Option.bind_some, if_neg (by omega)]
      exact ⟨_, _, _, rfl, hi', fun h => by omega, fun _ => tmod_range v n hv0 (by omega)⟩
    · rw [if_neg h1]
      obtain ⟨v1, i1, h1', e1, a1, b1, c1⟩ := l01Byte_f b i h hi hb
      obtain ⟨v2, i2, h2', e2, a2, b2, c2⟩ := l01Byte_f b i1 h1' c1 hb
      obtain ⟨v3, i3, h3', e3, a3, b3, c3⟩ := l01Byte_f b i2 h2' c2 hb
      obtain ⟨v4, i4, h4', e4, a4, b4, c4⟩ := l01Byte_f b i3 h3' c3 hb
      rw [e1, Option.bind_some]
      dsimp only
      rw [e2, Option.bind_some]
      dsimp only
      rw [e3, Option.bind_some]
      dsimp only
      rw [e4, Option.bind_some, if_neg (by omega)]
      refine ⟨_, _, _, rfl, c4, fun h => by omega, fun _ => tmod_range _ n ?_ (by omega)⟩
      unfold wrap64; omega

end Go.Proofs.Ytopckcppmpmcnaa.Q
