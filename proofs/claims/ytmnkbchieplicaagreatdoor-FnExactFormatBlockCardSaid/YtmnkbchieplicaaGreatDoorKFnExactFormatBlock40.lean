/- What the program reads of a block: separations, next instructions, who can go on. -/
import Derived.Test.YtmnkbchieplicaaGreatDoorKFnExactFormatBlock39
namespace Go.Proofs.YtmnkbchieplicaaGreatDoor.Q
open Go Go.RowKit Go.Proofs.YtmnkbchieplicaaGreatDoorW.PrintWords Go.Proofs.YtmnkbchieplicaaGreatDoorW.PrintLast Go.Proofs.YtmnkbchieplicaaGreatDoorW.PrintMore
set_option linter.unusedVariables false
set_option linter.unusedSimpArgs false

theorem isLocal_f {i : S95} {s : Nat} (h : insV s i) : impl_IsLocal.f i.f0 i.f1 i.f2 i.f3 = some (decide (i.f0 ≤ 12)) := by
  unfold impl_IsLocal.f
  rw [within_some, decide_eq_true h.1.1]; rfl
theorem wrapLen {n : Nat} (h : n ≤ 1000) (hp : 0 < n) : wrap64 ((n : Int) - 1) = ((n - 1 : Nat) : Int) := by unfold wrap64; omega
theorem rdF {l : List S132} (h : l ≠ []) (hl : l.length ≤ 1000) : rd_T132 l (wrap64 ((l.length : Int) - 1)) = topF l := by
  rw [wrapLen hl (List.length_pos_iff.mpr h)]
  unfold rd_T132
  rw [Int.toNat_natCast, topF_rd h]
theorem rdI (p : List S95) (pc : Int) : rd_T95 p pc = insM p pc := rfl
theorem splits_f {p : List S95} {x : MWrp} (hp : progV p) (hw : wrpV p x) (hne : x.f1 ≠ []) (K : Nat) : impl_Warp_splits.f (K + 1) x.f0 x.f1 x.f2 p = some (splitsM p x) := by
  have htop := top_pc hw.2.2 hne
  have hpos : 0 < x.f1.length := List.length_pos_iff.mpr hne
  have hl : x.f1.length ≤ 24 := hw.2.2.1.1
  have hfm := hw.2.2.1.2.1 _ (topF_mem hne)
  have hins := hp.2 _ (insM_mem htop.1 htop.2)
  have hpl := hp.1
  unfold impl_Warp_splits.f
  rw [rdF hne (by omega), rdI, wrapLen (by omega) hpos, if_pos (by omega), if_pos (by omega), if_pos htop.1, if_pos htop.2]
  unfold splitsM
  dsimp only
  have hw1 : wrap64 ((topF x.f1).f0 + 1) = (topF x.f1).f0 + 1 := by unfold wrap64; omega
  rw [hw1]
  by_cases h10 : (insM p (topF x.f1).f0).f0 = 10
  · have hreg := hins.2.2.2.2.2.2.1 h10
    rw [if_pos h10]
    unfold impl_Warp_splits.j0
    dsimp only
    by_cases hb : (insM p (topF x.f1).f0).f2 = (topF x.f1).f0 + 1
    · rw [if_pos (by simpa using hb)]; simp [hb]
    · rw [if_neg (by simpa using hb), if_pos htop.1, if_pos htop.2, rdI]
      have hz : impl_Warp_zeroMask.f x.f0 x.f1 x.f2 (insM p (topF x.f1).f0).f1 = some (zeroM x.f2 (topF x.f1).f2 (insM p (topF x.f1).f0).f1.toNat) := by
        unfold impl_Warp_zeroMask.f
        rw [if_pos ⟨⟨hne, by omega, by have := hfm.2.2; omega, hfm.2.2.2⟩, hw.2.1.1, hreg.1.1, hreg.1.2⟩]
      rw [hz, Option.bind_some, active_f _ hne (by omega)]
      by_cases z0 : zeroM x.f2 (topF x.f1).f2 (insM p (topF x.f1).f0).f1.toNat = 0
      · rw [if_pos z0]; simp [z0]
      · rw [if_neg z0, Option.bind_some]
        congr 1
        by_cases z1 : zeroM x.f2 (topF x.f1).f2 (insM p (topF x.f1).f0).f1.toNat = (topF x.f1).f2 <;> simp [h10, hb, z0, z1]
  · rw [if_neg h10]
    unfold impl_Warp_splits.j0
    dsimp only
    rw [if_pos rfl]; simp [h10]
theorem rdW (b : MBlk) (k : Nat) : rd_T59 b.f1 (k : Int) = wrpM b k := by
  unfold rd_T59 wrpM
  rw [Int.toNat_natCast]; rfl
theorem waits_f {b : MBlk} (hb : blkV b) (k : Nat) (hk : k < b.f1.length) : impl_Block_waits.f b.f0 b.f1 b.f2 b.f3 b.f4 (k : Int) = some (waitsM b k) := by
  unfold impl_Block_waits.f waitsM
  rw [if_pos (by omega)]
  have h3 := hb.2.2.2.1
  have hl := hb.2.1
  have h8 : (2 : Nat) ^ b.f1.length ≤ 2 ^ 3 := Nat.pow_le_pow_right (by decide) hl.2
  obtain ⟨n, hn⟩ := Int.eq_ofNat_of_zero_le h3.1
  rw [hn]
  rw [hn] at h3
  rw [bit_i64 n (by have := h3.2; simp at this; omega) k (by omega)]
  rfl
theorem nextIns_f {b : MBlk} (hb : blkV b) (k : Nat) (hk : k < b.f1.length) : impl_Block_nextIns.f b.f0 b.f1 b.f2 b.f3 b.f4 (k : Int) = some (if (wrpM b k).f1 = [] then (0, 0, 0, 0, false) else ((nextI b k).f0, (nextI b k).f1, (nextI b k).f2, (nextI b k).f3, true)) := by
  have hw := (hb.2.2.2.2.2 k hk).1
  unfold impl_Block_nextIns.f
  rw [rdW, if_pos (by omega), if_pos (by omega)]
  by_cases hne : (wrpM b k).f1 = []
  · rw [if_pos (by rw [hne]; rfl), if_pos hne]
  · have hpos : 0 < (wrpM b k).f1.length := List.length_pos_iff.mpr hne
    have hl : (wrpM b k).f1.length ≤ 24 := hw.2.2.1.1
    have htop := top_pc hw.2.2 hne
    rw [if_neg (by omega), rdF hne (by omega), wrapLen (by omega) hpos, if_pos (by omega), if_pos (by omega), if_pos htop.1, if_pos htop.2, rdI, if_neg hne]
    rfl
theorem canStep_f {b : MBlk} (hb : blkV b) (k : Nat) (hk : k < b.f1.length) (K : Nat) : impl_Block_canStep.f (K + 2) b.f0 b.f1 b.f2 b.f3 b.f4 (k : Int) = some (canM b k) := by
  have hw := (hb.2.2.2.2.2 k hk).1
  unfold impl_Block_canStep.f
  rw [nextIns_f hb k hk, Option.bind_some]
  unfold canM
  dsimp only
  by_cases hne : (wrpM b k).f1 = []
  · rw [if_pos hne]
    simp only [Bool.false_eq_true, if_false]
    unfold impl_Block_canStep.j0
    dsimp only
    rw [if_pos rfl]; simp [hne]
  · have hpos : 0 < (wrpM b k).f1.length := List.length_pos_iff.mpr hne
    have hl : (wrpM b k).f1.length ≤ 24 := hw.2.2.1.1
    have htop := top_pc hw.2.2 hne
    have hins := hb.1.2 _ (insM_mem htop.1 htop.2)
    have hi : insM b.f0 (topF (wrpM b k).f1).f0 = nextI b k := rfl
    rw [hi] at hins
    have he : (wrpM b k).f1.isEmpty = false := by simpa using hne
    rw [if_neg hne]
    simp only [if_true]
    rw [waits_f hb k hk, Option.bind_some, he]
    unfold impl_Block_canStep.j0
    dsimp only
    by_cases hwt : waitsM b k = true
    · rw [if_pos hwt, hwt]; rfl
    · have hwf : waitsM b k = false := by simpa using hwt
      rw [if_neg hwt, hwf]
      simp only [Bool.not_false, Bool.true_and]
      by_cases h16 : (nextI b k).f0 = 16
      · rw [if_pos h16, if_pos h16, if_pos (by omega), if_pos (by omega), rdW]
        congr 1
        by_cases h1 : (wrpM b k).f1.length = 1
        · simp [h1]
        · have h2 : ¬ ((wrpM b k).f1.length : Int) = 1 := by omega
          simp [h1, h2]
      · rw [if_neg h16, if_neg h16, isLocal_f hins, Option.bind_some]
        by_cases h12 : (nextI b k).f0 ≤ 12
        · rw [if_pos h12, if_pos (by simpa using h12), if_pos (by omega), if_pos (by omega), rdW, splits_f hb.1 hw hne, Option.bind_some]
          cases hs : splitsM b.f0 (wrpM b k)
          · simp
          · have e : wrap64 (((wrpM b k).f1.length : Int) + 2) = ((wrpM b k).f1.length : Int) + 2 := by unfold wrap64; omega
            simp only [if_true, e, Bool.not_true, Bool.false_or]
            congr 1
            by_cases h24 : (wrpM b k).f1.length + 2 ≤ 24
            · rw [decide_eq_true h24, decide_eq_true (by omega)]
            · rw [decide_eq_false h24, decide_eq_false (by omega)]
        · rw [if_neg h12, if_neg (by simpa using h12)]

end Go.Proofs.YtmnkbchieplicaaGreatDoor.Q
