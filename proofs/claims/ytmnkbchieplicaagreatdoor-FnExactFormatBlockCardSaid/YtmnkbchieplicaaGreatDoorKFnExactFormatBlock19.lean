/- Masks: bits of whole numbers, the lanes of a mask, the registers that are zero. -/
import Derived.Test.YtmnkbchieplicaaGreatDoorKFnExactFormatBlock18
import Derived.Laws.BitsLemmas
namespace Go.Proofs.YtmnkbchieplicaaGreatDoor.Q
open Go Go.RowKit Go.Proofs.YtmnkbchieplicaaGreatDoorW.PrintWords Go.Proofs.YtmnkbchieplicaaGreatDoorW.PrintLast Go.Proofs.YtmnkbchieplicaaGreatDoorW.PrintMore
set_option linter.unusedVariables false
set_option linter.unusedSimpArgs false

theorem wraps_i64 (n : Int) (h0 : 0 ≤ n) (h1 : n < 2 ^ 62) : IntKind.i64.wrap n = n := by rw [IntKind.wrap_i64]; omega
theorem and_i64 {a b : Nat} (ha : a < 2 ^ 62) (hb : b < 2 ^ 62) : Go.bits .and .i64 (a : Int) (b : Int) = ((a &&& b : Nat) : Int) := (bits_nat .i64 62 (by decide) wraps_i64 a b ha hb).1
theorem or_i64 {a b : Nat} (ha : a < 2 ^ 62) (hb : b < 2 ^ 62) : Go.bits .or .i64 (a : Int) (b : Int) = ((a ||| b : Nat) : Int) := (bits_nat .i64 62 (by decide) wraps_i64 a b ha hb).2
theorem shr_i64 (m : Nat) (l : Nat) (hl : l ≤ 64) : shr .i64 (m : Int) (l : Int) = ((m >>> l : Nat) : Int) := by
  unfold shr
  rw [Nat.shiftRight_eq_div_pow, show min (l : Int).toNat IntKind.i64.bits = l from by simp [IntKind.bits]; omega]
  simp
theorem shl_one (l : Nat) (hl : l ≤ 31) : shl .i64 1 (l : Int) = ((2 ^ l : Nat) : Int) := by
  unfold shl
  rw [show min (l : Int).toNat IntKind.i64.bits = l from by simp [IntKind.bits]; omega, Int.one_mul]
  have h : (2 : Nat) ^ l ≤ 2 ^ 31 := Nat.pow_le_pow_right (by decide) hl
  rw [wraps_i64 _ (by exact_mod_cast Nat.zero_le _) (by have : ((2 ^ l : Nat) : Int) ≤ ((2 ^ 31 : Nat) : Int) := by exact_mod_cast h
                                                        simp at this ⊢; omega)]
  simp
/-- The bit of a number. -/
theorem bit_i64 (m : Nat) (hm : m < 2 ^ 62) (l : Nat) (hl : l ≤ 62) : (Go.bits .and .i64 (shr .i64 (m : Int) (l : Int)) 1 == 1) = m.testBit l := by
  rw [shr_i64 m l (by omega), show (1 : Int) = ((1 : Nat) : Int) from rfl, and_i64 (Nat.lt_of_le_of_lt (Nat.shiftRight_le m l) hm) (by decide)]
  rw [Nat.testBit, Nat.and_comm]
  have h : 1 &&& (m >>> l) < 2 := by rw [Nat.one_and_eq_mod_two]; omega
  generalize 1 &&& (m >>> l) = z at h
  have h2 : z = 0 ∨ z = 1 := by omega
  rcases h2 with rfl | rfl <;> rfl

theorem within_some (a b c : Int) : impl_within.f a b c = some (decide (b ≤ a) && decide (a ≤ c)) := by
  unfold impl_within.f
  by_cases h : a ≥ b
  · rw [if_pos h, decide_eq_true (show b ≤ a from h)]; rfl
  · rw [if_neg h, decide_eq_false (show ¬ b ≤ a from h)]; rfl
theorem isMask_f {m : Int} (h0 : 0 ≤ m) (h1 : m ≤ 255) : impl_IsMask.f m = some true := by
  unfold impl_IsMask.f
  rw [within_some, decide_eq_true h0, decide_eq_true h1]; rfl
theorem isLane_f {l : Int} (h0 : 0 ≤ l) (h1 : l ≤ 7) : impl_isLane.f l = some true := by
  unfold impl_isLane.f
  rw [within_some, decide_eq_true h0, decide_eq_true h1]; rfl
theorem hasLane_f {m : Int} (h0 : 0 ≤ m) (h1 : m ≤ 255) {l : Nat} (hl : l < 8) : impl_HasLane.f m (l : Int) = some (hasL m l) := by
  unfold impl_HasLane.f
  rw [isMask_f h0 h1, isLane_f (by omega) (by omega)]
  simp only [Option.bind_some, if_true]
  rw [if_pos (by omega)]
  obtain ⟨n, rfl⟩ := Int.eq_ofNat_of_zero_le h0
  rw [bit_i64 n (by omega) l (by omega)]
  rfl
/-- The lanes of a mask. -/
def lanesL (m : Int) : List Int := ((List.range 8).filter (hasL m)).map fun k : Nat => (k : Int)
theorem lanes_l0 {m : Int} (h0 : 0 ≤ m) (h1 : m ≤ 255) : ∀ (n j K : Nat) (acc : List Int), j + n = 8 → n < K → acc.length ≤ j →
    impl_LanesOf.l0 K m acc (j : Int) = some (acc ++ ((List.range' j n).filter (hasL m)).map fun k : Nat => (k : Int))
  | 0, j, K + 1, acc, hj, _, _ => by
    unfold impl_LanesOf.l0
    rw [if_neg (by omega)]; simp
  | n + 1, j, K + 1, acc, hj, hK, ha => by
    unfold impl_LanesOf.l0
    rw [if_pos (by omega), hasLane_f h0 h1 (by omega), Option.bind_some]
    have hw : wrap64 ((j : Int) + 1) = ((j + 1 : Nat) : Int) := by unfold wrap64; omega
    rw [hw, List.range'_succ, List.filter_cons]
    by_cases hb : hasL m j = true
    · rw [if_pos hb, if_pos (by omega), if_pos hb, lanes_l0 h0 h1 n (j + 1) K _ (by omega) (by omega) (by simp; omega)]
      simp
    · rw [if_neg hb, if_neg hb, lanes_l0 h0 h1 n (j + 1) K _ (by omega) (by omega) (by omega)]
theorem lanesOf_f {m : Int} (h0 : 0 ≤ m) (h1 : m ≤ 255) {K : Nat} (hK : 9 ≤ K) : impl_LanesOf.f K m = some (lanesL m) := by
  unfold impl_LanesOf.f lanesL
  rw [show (0 : Int) = ((0 : Nat) : Int) from rfl, lanes_l0 (K := K) h0 h1 8 0 [] (by omega) (by omega) (by simp), List.range_eq_range', List.nil_append]
theorem mem_lanesL {m l : Int} (h : l ∈ lanesL m) : 0 ≤ l ∧ l ≤ 7 := by
  unfold lanesL at h
  obtain ⟨k, hk, rfl⟩ := List.mem_map.1 h
  have := List.mem_range.1 (List.mem_filter.1 hk).1
  omega
theorem lanesL_len (m : Int) : (lanesL m).length ≤ 8 := by
  unfold lanesL
  rw [List.length_map]
  exact Nat.le_trans (List.length_filter_le _ _) (by simp)
/-- The mask of the lanes of a list whose register is zero, on top of a mask. -/
def zmStep (rs : List Int) (reg : Int) (mask l : Int) : Int := if rd rs (l * 4 + reg) = 0 then Go.bits .or .i64 mask (wrap64 (2 ^ l.toNat)) else mask
theorem or_pow {a k : Nat} (h : a < 2 ^ k) : a ||| 2 ^ k = a + 2 ^ k := by
  have h2 := Nat.two_pow_add_eq_or_of_lt h 1
  rw [Nat.mul_one] at h2
  rw [Nat.or_comm, ← h2]; omega
theorem zeroN_lt (rs : List Int) (m : Int) (reg : Nat) : ∀ k, zeroN rs m reg k < 2 ^ k
  | 0 => by simp [zeroN]
  | k + 1 => by
    have := zeroN_lt rs m reg k
    unfold zeroN
    rw [Nat.pow_succ]
    dsimp only
    split <;> omega
theorem zm_fold (rs : List Int) (reg : Nat) (m : Int) : ∀ n, n ≤ 8 → (((List.range n).filter (hasL m)).map fun k : Nat => (k : Int)).foldl (zmStep rs reg) 0 = ((zeroN rs m reg n : Nat) : Int)
  | 0, _ => rfl
  | n + 1, hn => by
    rw [List.range_succ, List.filter_append, List.map_append, List.foldl_append, zm_fold rs reg m n (by omega)]
    have hlt := zeroN_lt rs m reg n
    have h8 : (2 : Nat) ^ n ≤ 2 ^ 7 := Nat.pow_le_pow_right (by decide) (by omega)
    by_cases hb : hasL m n = true
    · have e1 : ((List.filter (hasL m) [n]).map fun k : Nat => (k : Int)) = [(n : Int)] := by simp [hb]
      rw [e1]
      simp only [List.foldl_cons, List.foldl_nil]
      unfold zmStep
      have e2 : rd rs ((n : Int) * 4 + reg) = rg rs (n * 4 + reg) := by
        unfold rd rg
        rw [show ((n : Int) * 4 + reg).toNat = n * 4 + reg from by omega]
      have e3 : wrap64 (2 ^ ((n : Int)).toNat) = ((2 ^ n : Nat) : Int) := by
        rw [Int.toNat_natCast]
        have h9 : ((2 ^ n : Nat) : Int) ≤ 128 := by exact_mod_cast h8
        have h10 : ((2 ^ n : Nat) : Int) = 2 ^ n := by simp
        rw [← h10]
        unfold wrap64; omega
      rw [e2, e3, or_i64 (by omega) (by omega), or_pow hlt]
      conv => rhs; unfold zeroN
      dsimp only
      rw [hb, Bool.true_and]
      by_cases hz : rg rs (n * 4 + reg) = 0
      · rw [if_pos hz, if_pos (by simp [hz])]
      · rw [if_neg hz, if_neg (by simp [hz])]
    · have e1 : ((List.filter (hasL m) [n]).map fun k : Nat => (k : Int)) = [] := by simp [hb]
      rw [e1]
      simp only [List.foldl_nil]
      conv => rhs; unfold zeroN
      dsimp only
      rw [show hasL m n = false from by simpa using hb, Bool.false_and]
      rfl
theorem zm_all (rs : List Int) (reg : Int) (m : Int) (h0 : 0 ≤ reg) : (lanesL m).foldl (zmStep rs reg) 0 = zeroM rs m reg.toNat := by
  have h := zm_fold rs reg.toNat m 8 (Nat.le_refl _)
  rw [show ((reg.toNat : Nat) : Int) = reg from by omega] at h
  exact h

end Go.Proofs.YtmnkbchieplicaaGreatDoor.Q
