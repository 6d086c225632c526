/- What the reference reads of a block: who can go on. -/
import Derived.Test.YtmnkbchieplicaaGreatDoorKFnExactFormatBlock42
namespace Go.Proofs.YtmnkbchieplicaaGreatDoor.Q
open Go Go.RowKit Go.Proofs.YtmnkbchieplicaaGreatDoorW.PrintWords Go.Proofs.YtmnkbchieplicaaGreatDoorW.PrintLast Go.Proofs.YtmnkbchieplicaaGreatDoorW.PrintMore
set_option linter.unusedVariables false
set_option linter.unusedSimpArgs false

theorem slocal_f {i : MIns} {s : Nat} (h : insV s i) : spec_IsLocal.f i.f0 i.f1 i.f2 i.f3 = some (decide (i.f0 ≤ 12)) := by
  unfold spec_IsLocal.f
  rw [l01In_f, Option.bind_some]
  congr 1
  rw [Bool.eq_iff_iff, inR_iff, decide_eq_true_eq]
  have := h.1
  omega
theorem slocalW_f {p : List MIns} {x : MWrp} (hp : progV p) (hw : wrpV p x) (hne : x.f1 ≠ []) {K : Nat} (hK : 12 ≤ K) : spec_l13Local.f K p x.f0 x.f1 x.f2 = some (decide ((insM p (topF x.f1).f0).f0 ≤ 12) && (!splitsM p x || decide (x.f1.length + 2 ≤ 24))) := by
  have htop := top_pc hw.2.2 hne
  have hpos : 0 < x.f1.length := List.length_pos_iff.mpr hne
  have hl : x.f1.length ≤ 24 := hw.2.2.1.1
  have hins := hp.2 _ (insM_mem htop.1 htop.2)
  unfold spec_l13Local.f
  rw [if_neg (by omega), rdF hne (by omega), wrapLen (by omega) hpos, if_pos (by omega), if_pos (by omega), if_pos htop.1, if_pos htop.2, rdI, slocal_f hins, Option.bind_some]
  by_cases h12 : (insM p (topF x.f1).f0).f0 ≤ 12
  · rw [decide_eq_true h12, if_pos rfl, ssplits_f hp hw hne hK, Option.bind_some, Bool.true_and]
    cases splitsM p x
    · simp
    · rw [if_pos rfl]
      congr 1
      rw [Bool.eq_iff_iff]
      simp
      omega
  · rw [decide_eq_false h12]; simp
theorem scan_f {b : MBlk} (hb : blkV b) (w : Nat) (hw : w < b.f1.length) {K : Nat} (hK : 14 ≤ K) : spec_l30Can.f K b.f0 b.f1 b.f2 b.f3 b.f4 (w : Int) = some (canM b w) := by
  obtain ⟨K, rfl⟩ : ∃ m, K = m + 1 := ⟨K - 1, by omega⟩
  have hwv := (hb.2.2.2.2.2 w hw).1
  have h3 := hb.2.2.2.1
  have hl := hb.2.1
  have h8 : (2 : Nat) ^ b.f1.length ≤ 2 ^ 3 := Nat.pow_le_pow_right (by decide) hl.2
  unfold spec_l30Can.f canM
  rw [rdW, if_pos (by omega), if_pos (by omega)]
  dsimp only
  by_cases hne : (wrpM b w).f1 = []
  · rw [if_pos (by rw [hne]; rfl), spec_l30Can.j0.eq_2, if_pos rfl, hne]; rfl
  · have hpos : 0 < (wrpM b w).f1.length := List.length_pos_iff.mpr hne
    have hlen : (wrpM b w).f1.length ≤ 24 := hwv.2.2.1.1
    have htop := top_pc hwv.2.2 hne
    have hins := hb.1.2 _ (insM_mem htop.1 htop.2)
    have hemp : (wrpM b w).f1.isEmpty = false := by simpa using hne
    have hbit : (Go.bits .and .i64 (shr .i64 b.f3 (w : Int)) 1 == 1) = waitsM b w := by
      obtain ⟨n, hn⟩ := Int.eq_ofNat_of_zero_le h3.1
      unfold waitsM
      rw [hn]
      rw [hn] at h3
      rw [bit_i64 n (by have := h3.2; simp at this; omega) w (by omega)]; rfl
    rw [if_neg (by omega), hbit, spec_l30Can.j0.eq_2, hemp]
    cases hwt : waitsM b w
    · rw [if_neg Bool.false_ne_true]
      have hnx : spec_l30Next.f b.f0 b.f1 b.f2 b.f3 b.f4 (w : Int) = some ((nextI b w).f0, (nextI b w).f1, (nextI b w).f2, (nextI b w).f3) := by
        unfold spec_l30Next.f
        rw [rdW, if_pos (by omega), if_pos (by omega), rdF hne (by omega), wrapLen (by omega) hpos, if_pos (by omega), if_pos (by omega), if_pos htop.1, if_pos htop.2, rdI]
        rfl
      rw [hnx, Option.bind_some]
      dsimp only
      have hi : insM b.f0 (topF (wrpM b w).f1).f0 = nextI b w := rfl
      rw [hi] at hins
      rw [slocal_f hins, Option.bind_some, slocalW_f hb.1 hwv hne (by omega), hi]
      simp only [Bool.not_false, Bool.true_and]
      by_cases h12 : (nextI b w).f0 ≤ 12
      · rw [decide_eq_true h12, if_pos rfl, if_neg (by omega), if_pos h12]; rfl
      · rw [decide_eq_false h12, if_neg Bool.false_ne_true]
        by_cases h16 : (nextI b w).f0 = 16
        · rw [if_pos h16, if_pos h16]
          congr 1
          rw [Bool.eq_iff_iff]
          simp
          omega
        · rw [if_neg h16, if_neg h16, if_neg h12]
    · simp

end Go.Proofs.YtmnkbchieplicaaGreatDoor.Q
