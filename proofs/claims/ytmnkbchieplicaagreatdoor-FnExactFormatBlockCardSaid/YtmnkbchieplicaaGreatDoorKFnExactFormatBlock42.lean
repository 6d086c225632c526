/- What the reference reads of a warp: its mask, its zeros, whether it separates. -/
import Derived.Test.YtmnkbchieplicaaGreatDoorKFnExactFormatBlock41
namespace Go.Proofs.YtmnkbchieplicaaGreatDoor.Q
open Go Go.RowKit Go.Proofs.YtmnkbchieplicaaGreatDoorW.PrintWords Go.Proofs.YtmnkbchieplicaaGreatDoorW.PrintLast Go.Proofs.YtmnkbchieplicaaGreatDoorW.PrintMore
set_option linter.unusedVariables false
set_option linter.unusedSimpArgs false

theorem wrS {n : Int} (h0 : -1000000 ≤ n) (h1 : n ≤ 1000000) : wrap64 n = n := by unfold wrap64; omega
theorem shasLane_f {m : Int} (h0 : 0 ≤ m) (h1 : m ≤ 255) {l : Nat} (hl : l < 8) : spec_HasLane.f m (l : Int) = some (hasL m l) := by
  unfold spec_HasLane.f spec_IsMask.f
  simp only [l01In_f, Option.bind_some]
  rw [show inR 0 255 m = true from by rw [inR_iff]; omega, if_pos rfl, show inR 0 7 (l : Int) = true from by rw [inR_iff]; omega, if_pos rfl, if_pos (by omega)]
  obtain ⟨n, rfl⟩ := Int.eq_ofNat_of_zero_le h0
  rw [bit_i64 n (by omega) l (by omega)]
  rfl
theorem sactive_f (a : Int) {l : List MFrm} (h : l ≠ []) (hl : l.length ≤ 1000) (l2 : List Int) : spec_ActiveMask.f a l l2 = some (topF l).f2 := by
  have hp : 0 < l.length := List.length_pos_iff.mpr h
  unfold spec_ActiveMask.f
  rw [if_neg (by omega), rdF h hl, wrapLen hl hp, if_pos (by omega), if_pos (by omega)]
theorem szero_f (a : Int) {fs : List MFrm} (hne : fs ≠ []) (hl : fs.length ≤ 1000) (hm : 0 ≤ (topF fs).f2 ∧ (topF fs).f2 ≤ 255) {rs : List Int} (hr : rs.length = 32) {reg : Int} (hreg : regV reg) {K : Nat} (hK : 12 ≤ K) : spec_ZeroMask.f K a fs rs reg = some (zeroM rs (topF fs).f2 reg.toNat) := by
  obtain ⟨r, rfl⟩ := Int.eq_ofNat_of_zero_le hreg.1
  have hr3 : r ≤ 3 := by have := hreg.2; omega
  have key : ∀ d i k, i + d = 8 → d < k → spec_ZeroMask.l0 k (r : Int) ((zeroN rs (topF fs).f2 r i : Nat) : Int) (i : Int) a fs rs = some ((zeroN rs (topF fs).f2 r 8 : Nat) : Int) := by
    intro d
    induction d with
    | zero =>
      intro i k hi hk
      obtain ⟨k, rfl⟩ : ∃ m, k = m + 1 := ⟨k - 1, by omega⟩
      obtain rfl : i = 8 := by omega
      rw [spec_ZeroMask.l0.eq_2, if_neg (by omega)]
    | succ d ih =>
      intro i k hi hk
      obtain ⟨k, rfl⟩ : ∃ m, k = m + 1 := ⟨k - 1, by omega⟩
      have hi8 : i < 8 := by omega
      have hiI : (i : Int) < 8 := by omega
      have hmL := shasLane_f (l := i) hm.1 hm.2 hi8
      have e : wrap64 ((i : Int) + 1) = ((i + 1 : Nat) : Int) := by unfold wrap64; omega
      have e2 : wrap64 (wrap64 ((i : Int) * 4) + (r : Int)) = ((i * 4 + r : Nat) : Int) := by clear e; rw [wrS (n := (i : Int) * 4) (by omega) (by omega), wrS (by omega) (by omega)]; omega
      have ih2 := ih (i + 1) k (by clear e e2; omega) (by clear e e2; omega)
      rw [spec_ZeroMask.l0.eq_2, if_pos hiI, sactive_f a hne hl, Option.bind_some, hmL, Option.bind_some, e, e2]
      clear e e2
      have hz : zeroN rs (topF fs).f2 r (i + 1) = if (hasL (topF fs).f2 i && rg rs (i * 4 + r) == 0) = true then zeroN rs (topF fs).f2 r i + 2 ^ i else zeroN rs (topF fs).f2 r i := rfl
      have hrd : rd rs ((i * 4 + r : Nat) : Int) = rg rs (i * 4 + r) := by unfold rd rg; rw [Int.toNat_natCast]
      cases hb : hasL (topF fs).f2 i
      · rw [hb, Bool.false_and, if_neg Bool.false_ne_true] at hz
        rw [if_neg Bool.false_ne_true, ← hz]; exact ih2
      · rw [hb, Bool.true_and] at hz
        rw [if_pos rfl, if_pos (by omega), if_pos (by omega), hrd]
        by_cases h0 : rg rs (i * 4 + r) = 0
        · have h8 : (2 : Nat) ^ i ≤ 2 ^ 7 := Nat.pow_le_pow_right (by decide) (by omega)
          have hlt := zeroN_lt rs (topF fs).f2 r i
          rw [h0, if_pos (by decide)] at hz
          rw [if_pos h0, if_pos (by omega), shl_one i (by omega), or_i64 (by omega) (by omega), or_pow hlt, ← hz]
          exact ih2
        · rw [if_neg (by simpa using h0)] at hz
          rw [if_neg h0, ← hz]; exact ih2
  obtain ⟨K, rfl⟩ : ∃ m, K = m + 1 := ⟨K - 1, by omega⟩
  unfold spec_ZeroMask.f spec_l04Reg.f
  simp only [l01In_f, Option.bind_some]
  rw [show inR 0 3 (r : Int) = true from by rw [inR_iff]; omega, if_pos rfl, hr, spec_ZeroMask.j0.eq_2, if_neg (by decide)]
  exact key 8 0 K (by omega) (by omega)
theorem ssplits_f {p : List MIns} {x : MWrp} (hp : progV p) (hw : wrpV p x) (hne : x.f1 ≠ []) {K : Nat} (hK : 12 ≤ K) : spec_l13Splits.f K p x.f0 x.f1 x.f2 = some (splitsM p x) := by
  have htop := top_pc hw.2.2 hne
  have hpos : 0 < x.f1.length := List.length_pos_iff.mpr hne
  have hl : x.f1.length ≤ 24 := hw.2.2.1.1
  have hfm := hw.2.2.1.2.1 _ (topF_mem hne)
  have hins := hp.2 _ (insM_mem htop.1 htop.2)
  have hpl := hp.1
  unfold spec_l13Splits.f
  rw [rdF hne (by omega), rdI, wrapLen (by omega) hpos, if_pos (by omega), if_pos (by omega), if_pos htop.1, if_pos htop.2]
  unfold splitsM
  dsimp only
  have hw1 : wrap64 ((topF x.f1).f0 + 1) = (topF x.f1).f0 + 1 := by unfold wrap64; omega
  rw [hw1]
  clear hw1
  by_cases h10 : (insM p (topF x.f1).f0).f0 = 10
  · have hreg := hins.2.2.2.2.2.2.1 h10
    rw [if_pos h10]
    by_cases hb : (insM p (topF x.f1).f0).f2 = (topF x.f1).f0 + 1
    · rw [if_pos hb]; simp [hb]
    · rw [if_neg hb, szero_f x.f0 hne (by omega) ⟨by have := hfm.2.2; omega, hfm.2.2.2⟩ hw.2.1.1 hreg.1 hK, Option.bind_some]
      by_cases z0 : zeroM x.f2 (topF x.f1).f2 (insM p (topF x.f1).f0).f1.toNat = 0
      · rw [if_pos z0]; simp [z0]
      · rw [if_neg z0]
        congr 1
        by_cases z1 : zeroM x.f2 (topF x.f1).f2 (insM p (topF x.f1).f0).f1.toNat = (topF x.f1).f2 <;> simp [h10, hb, z0, z1]
  · rw [if_neg h10]; simp [h10]

end Go.Proofs.YtmnkbchieplicaaGreatDoor.Q
