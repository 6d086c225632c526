/- The program's tests of validity are the Bools of PValid. -/
import Derived.Test.YtmnkbchieplicaaGreatDoorKFnExactFormatBlock29
namespace Go.Proofs.YtmnkbchieplicaaGreatDoor.Q
open Go Go.RowKit Go.Proofs.YtmnkbchieplicaaGreatDoorW.PrintWords Go.Proofs.YtmnkbchieplicaaGreatDoorW.PrintLast Go.Proofs.YtmnkbchieplicaaGreatDoorW.PrintMore
set_option linter.unusedVariables false
set_option linter.unusedSimpArgs false

/-- A loop that tests one element after the other. -/
theorem all_loop (l : Nat → Int → Option Bool) (n K0 : Nat) (t : Nat → Bool) (E : Option Bool) (hstep : ∀ k i, K0 ≤ k → i < n → l (k + 1) (i : Int) = if t i = true then l k ((i + 1 : Nat) : Int) else some false) (hend : ∀ k, K0 ≤ k → l (k + 1) (n : Int) = E) :
    ∀ d i k, i + d = n → K0 + d < k → l k (i : Int) = if (List.range' i d).all t = true then E else some false := by
  intro d
  induction d with
  | zero =>
    intro i k hi hk
    obtain ⟨k, rfl⟩ : ∃ m, k = m + 1 := ⟨k - 1, by omega⟩
    obtain rfl : i = n := by omega
    rw [hend k (by omega)]; rfl
  | succ d ih =>
    intro i k hi hk
    obtain ⟨k, rfl⟩ : ∃ m, k = m + 1 := ⟨k - 1, by omega⟩
    rw [hstep k i (by omega) (by omega), List.range'_succ, List.all_cons]
    cases ht : t i
    · simp
    · simp only [if_true, Bool.true_and]
      exact ih (i + 1) k (by omega) (by omega)
theorem range_all {α : Type} (f : α → Bool) (z : α) (xs : List α) : (List.range' 0 xs.length).all (fun i => f (xs.getD i z)) = xs.all f := by
  rw [← List.range_eq_range', Bool.eq_iff_iff, List.all_eq_true, List.all_eq_true]
  constructor
  · intro h x hx
    obtain ⟨i, hi, rfl⟩ := List.mem_iff_getElem.1 hx
    have := h i (List.mem_range.2 hi)
    rwa [List.getD_eq_getElem?_getD, List.getElem?_eq_getElem hi] at this
  · intro h i hi
    have hi := List.mem_range.1 hi
    rw [List.getD_eq_getElem?_getD, List.getElem?_eq_getElem hi]
    exact h _ (List.getElem_mem hi)
theorem all_loop0 {α : Type} {l : Nat → Int → Option Bool} {xs : List α} {z : α} {K0 : Nat} {f : α → Bool} {E : Option Bool} (hstep : ∀ k i, K0 ≤ k → i < xs.length → l (k + 1) (i : Int) = if f (xs.getD i z) = true then l k ((i + 1 : Nat) : Int) else some false) (hend : ∀ k, K0 ≤ k → l (k + 1) (xs.length : Int) = E) {k : Nat} (hk : K0 + xs.length < k) :
    l k 0 = if xs.all f = true then E else some false := by
  have h := all_loop l xs.length K0 (fun i => f (xs.getD i z)) E hstep hend xs.length 0 k (by omega) hk
  rw [range_all] at h
  exact h
theorem rdI' (p : List MIns) (i : Nat) : rd_T95 p (i : Int) = p.getD i z95 := by unfold rd_T95; rw [Int.toNat_natCast]
theorem rdFr (p : List MFrm) (i : Nat) : rd_T132 p (i : Int) = p.getD i z132 := by unfold rd_T132; rw [Int.toNat_natCast]
theorem rdWp (p : List MWrp) (i : Nat) : rd_T59 p (i : Int) = p.getD i z59 := by unfold rd_T59; rw [Int.toNat_natCast]
/-! ### programs -/
theorem progOk_ev (p : List MIns) : Ev (fun k => impl_ProgramOk.f k p) (progB p) := by
  refine ⟨p.length + 2, fun k hk => ?_⟩
  dsimp only
  unfold impl_ProgramOk.f progB
  by_cases hl : p.length ≤ 32
  · rw [if_pos (by omega), decide_eq_true hl, Bool.true_and]
    have key : ∀ d i k, i + d = p.length → d < k → idxIns (badIns (p.length : Int)) k p (i : Int) = some (match (List.range' i d).find? (fun j => !insB p.length (p.getD j z95)) with | some j => (j : Int) | none => -1) := by
      intro d
      induction d with
      | zero =>
        intro i k hi hk
        obtain ⟨k, rfl⟩ : ∃ m, k = m + 1 := ⟨k - 1, by omega⟩
        unfold idxIns
        rw [if_neg (by omega)]; rfl
      | succ d ih =>
        intro i k hi hk
        obtain ⟨k, rfl⟩ : ∃ m, k = m + 1 := ⟨k - 1, by omega⟩
        unfold idxIns badIns
        have e : wrap64 ((i : Int) + 1) = ((i + 1 : Nat) : Int) := by unfold wrap64; omega
        rw [if_pos (by omega), if_pos (by omega), insOk_f, Option.bind_some, Option.bind_some, rdI', e, List.range'_succ, List.find?_cons]
        clear e
        have h2 := ih (i + 1) k (by omega) (by omega)
        show (if (!insB p.length (p.getD i z95)) = true then _ else _) = _
        cases hb : insB p.length (p.getD i z95)
        · simp
        · simp only [Bool.not_true, Bool.false_eq_true, if_false]
          exact h2
    unfold conIns
    rw [show (0 : Int) = ((0 : Nat) : Int) from rfl, key p.length 0 k (by omega) (by omega), Option.bind_some, Option.bind_some]
    congr 1
    rw [← range_all (insB p.length) z95, Bool.eq_iff_iff, List.all_eq_true]
    cases hf : (List.range' 0 p.length).find? (fun j => !insB p.length (p.getD j z95)) with
    | none =>
      have := List.find?_eq_none.1 hf
      simp only [Bool.not_eq_true', Bool.not_eq_false] at this
      simp
      intro x hx
      exact this x (by simpa using hx)
    | some j =>
      have h1 := List.find?_some hf
      have h2 := List.mem_of_find?_eq_some hf
      simp only [Bool.not_eq_true'] at h1
      constructor
      · intro h3
        exfalso
        have : decide ((j : Int) ≥ ((0 : Nat) : Int)) = true := decide_eq_true (by omega)
        rw [this] at h3
        simp at h3
      · intro h3
        have := h3 j h2
        rw [h1] at this; cases this
  · rw [if_neg (by omega), decide_eq_false hl]; rfl
/-! ### frames -/
theorem areFrames_ev (fs : List MFrm) (n : Nat) (hl : fs.length ≤ 9223372036854775807) : Ev (fun k => impl_areFrames.f k fs (n : Int)) (frmsB n fs) := by
  refine ⟨fs.length + 1, fun k hk => ?_⟩
  dsimp only
  unfold impl_areFrames.f
  rw [all_loop0 (l := fun k i => impl_areFrames.l0 k fs (n : Int) fs (fs.length : Int) i) (xs := fs) (z := z132) (K0 := 0) (f := frmB n) (E := some (edgeB n fs)) (fun k i _ hi => ?_) (fun k _ => ?_) (by omega)]
  · unfold frmsB
    cases fs.all (frmB n) <;> simp
  · show impl_areFrames.l0 (k + 1) fs (n : Int) fs (fs.length : Int) (i : Int) = _
    rw [impl_areFrames.l0.eq_2]
    rw [if_pos (by omega), if_pos (by omega), if_pos (by omega), rdFr, wrap_succ hi hl]
    generalize fs.getD i z132 = f
    unfold frmB impl_IsMask.f
    simp only [within_f, Option.bind_some]
    cases inR 0 n f.f0 <;> cases inR 0 n f.f1 <;> cases inR 0 255 f.f2 <;> simp
  · show impl_areFrames.l0 (k + 1) fs (n : Int) fs (fs.length : Int) (fs.length : Int) = _
    rw [impl_areFrames.l0.eq_2]
    unfold edgeB
    rw [if_neg (by omega)]
    by_cases he : fs = []
    · subst he; rfl
    · have hp : 0 < fs.length := List.length_pos_iff.mpr he
      have h0 : fs.isEmpty = false := by simpa using he
      have hw : wrap64 ((fs.length : Int) - 1) = ((fs.length - 1 : Nat) : Int) := by unfold wrap64; omega
      rw [if_neg (by omega), hw, if_pos (by omega), if_pos (by omega), h0, rdFr, show (0 : Int) = ((0 : Nat) : Int) from rfl, rdFr]
      clear hw
      have ht : fs.getD (fs.length - 1) z132 = topF fs := topF_rd he z132
      have hz : fs.getD 0 z132 = fs.getD 0 ⟨0, 0, 0⟩ := by
        rw [List.getD_eq_getElem?_getD, List.getD_eq_getElem?_getD, List.getElem?_eq_getElem hp]; rfl
      rw [ht, hz]
      generalize topF fs = t
      generalize fs.getD 0 ⟨0, 0, 0⟩ = g
      simp only [Bool.false_or]
      by_cases h24 : fs.length ≤ 24
      · rw [if_pos (by omega), decide_eq_true h24]
        unfold endsF
        by_cases h1 : t.f0 = t.f1
        · rw [if_pos h1]; simp [h1]
        · rw [if_neg h1]
          by_cases h2 : t.f0 = (n : Int)
          · rw [if_pos h2]; simp [h2]
          · rw [if_neg h2, if_pos (by omega)]
            by_cases h3 : g.f1 = (n : Int)
            · rw [if_pos h3]
              by_cases h4 : g.f2 = 255 <;> simp [h1, h2, h3, h4]
            · rw [if_neg h3]; simp [h3]
      · rw [if_neg (by omega), decide_eq_false h24]; rfl
theorem areWords_f {l : List Int} (h : l.length ≤ 1000000) : impl_AreWords.f l = some (wordsB l) := by
  unfold impl_AreWords.f wordsB
  rw [if_pos h]
  congr 1
  rw [Bool.eq_iff_iff]
  simp
theorem isWarpOf_ev (p : List MIns) (w : MWrp) (hl : w.f1.length ≤ 9223372036854775807) : Ev (fun k => impl_isWarpOf.f k p w.f0 w.f1 w.f2) (wrpB p w) := by
  obtain ⟨K, hK⟩ := areFrames_ev w.f1 p.length hl
  refine ⟨K, fun k hk => ?_⟩
  dsimp only
  unfold impl_isWarpOf.f wrpB impl_isWarpNumber.f impl_areAllRegs.f
  have h := hK k hk
  dsimp only at h
  rw [within_f, h, Option.bind_some, Option.bind_some]
  cases inR 0 2 w.f0
  · simp
  · by_cases hr : w.f2.length = 32
    · rw [areWords_f (by omega)]
      have e : ((w.f2.length : Int) == 32) = true := by rw [hr]; rfl
      simp only [if_true, Option.bind_some, e, decide_eq_true hr, Bool.true_and]
      cases wordsB w.f2 <;> simp
    · have e : ((w.f2.length : Int) == 32) = false := by simpa using (show ¬ (w.f2.length : Int) = 32 by omega)
      simp only [if_true, Option.bind_some, e, decide_eq_false hr, Bool.false_and, Bool.and_false]
      simp
/-- All of finitely many functions from some number of rounds on. -/
theorem ev_all {α : Type} {g : Nat → Nat → Option α} {r : Nat → α} (n : Nat) (h : ∀ i, i < n → Ev (g i) (r i)) : ∃ K, ∀ k, K ≤ k → ∀ i, i < n → g i k = some (r i) := by
  induction n with
  | zero => exact ⟨0, fun k _ i hi => by omega⟩
  | succ n ih =>
    obtain ⟨K, hK⟩ := ih (fun i hi => h i (by omega))
    obtain ⟨K2, hK2⟩ := h n (by omega)
    refine ⟨max K K2, fun k hk i hi => ?_⟩
    by_cases e : i = n
    · subst e; exact hK2 k (by omega)
    · exact hK k (by omega) i (by omega)
theorem nums_all (p : List MIns) (ws : List MWrp) : (List.range' 0 ws.length).all (fun k => decide ((ws.getD k z59).f0 = k) && wrpB p (ws.getD k z59)) = (ws.all (wrpB p) && numsB ws) := by
  rw [← range_all (wrpB p) z59 ws, ← List.range_eq_range', Bool.eq_iff_iff]
  unfold numsB
  simp only [List.all_eq_true, Bool.and_eq_true, List.mem_range]
  have hz : ∀ k, k < ws.length → ws.getD k z59 = ws.getD k ⟨0, [], []⟩ := fun k hk => by
    rw [List.getD_eq_getElem?_getD, List.getD_eq_getElem?_getD, List.getElem?_eq_getElem hk]; rfl
  constructor
  · intro h; exact ⟨fun k hk => (h k hk).2, fun k hk => by rw [← hz k hk]; exact (h k hk).1⟩
  · rintro ⟨h1, h2⟩ k hk; exact ⟨by rw [hz k hk]; exact h2 k hk, h1 k hk⟩
theorem shl_two (n : Nat) (h1 : 1 ≤ n) (h3 : n ≤ 3) : wrap64 (shl .i64 1 (n : Int) - 2) = 2 ^ n - 2 := by
  have : n = 1 ∨ n = 2 ∨ n = 3 := by omega
  rcases this with rfl | rfl | rfl <;> (rw [shl_one _ (by omega)]; unfold wrap64; decide)
theorem blockOk_ev (b : MBlk) (hl : ∀ k, k < b.f1.length → (b.f1.getD k z59).f1.length ≤ 9223372036854775807) : Ev (fun k => impl_BlockOk.f k b.f0 b.f1 b.f2 b.f3 b.f4) (blkB b) := by
  obtain ⟨K1, hK1⟩ := progOk_ev b.f0
  obtain ⟨K2, hK2⟩ := ev_all b.f1.length (fun i hi => isWarpOf_ev b.f0 (b.f1.getD i z59) (hl i hi))
  refine ⟨K1 + K2 + 8, fun k hk => ?_⟩
  obtain ⟨k, rfl⟩ : ∃ m, k = m + 1 := ⟨k - 1, by omega⟩
  have h1 := hK1 (k + 1) (by omega)
  dsimp only at h1 ⊢
  unfold impl_BlockOk.f blkB
  rw [h1, Option.bind_some]
  cases progB b.f0
  · simp [impl_BlockOk.j0]
  · simp only [if_true, Bool.true_and]
    unfold impl_isWarpCount.f
    rw [within_f, Option.bind_some, Option.bind_some]
    cases hc : inR 1 3 (b.f1.length : Int)
    · simp [impl_BlockOk.j0]
    · have hc2 := (inR_iff _ _ _).1 hc
      simp only [if_true, Bool.true_and]
      unfold impl_isMemory.f
      by_cases hm : b.f2.length = 32
      · rw [if_pos (by omega), areWords_f (by omega), Option.bind_some, Option.bind_some, decide_eq_true hm, Bool.true_and]
        cases wordsB b.f2
        · simp [impl_BlockOk.j0]
        · simp only [if_true, Bool.true_and]
          rw [within_f, Option.bind_some, shl_two _ (by omega) (by omega)]
          cases inR 0 (2 ^ b.f1.length - 2) b.f3
          · simp [impl_BlockOk.j0]
          · simp only [if_true, Bool.true_and]
            rw [within_f, Option.bind_some]
            cases inR 0 100000 b.f4
            · simp [impl_BlockOk.j0]
            · simp only [Bool.not_true, Bool.true_and]
              rw [impl_BlockOk.j0.eq_2, if_neg (by simp)]
              have h := all_loop (fun k i => impl_BlockOk.l0 k b.f1 (b.f1.length : Int) i b.f0 b.f1 b.f2 b.f3 b.f4) b.f1.length K2 (fun j => decide ((b.f1.getD j z59).f0 = j) && wrpB b.f0 (b.f1.getD j z59)) (some true) (fun k i hk hi => ?_) (fun k _ => ?_) b.f1.length 0 k (by omega) (by omega)
              · rw [show ((0 : Nat) : Int) = 0 from rfl] at h
                rw [h, nums_all]
                cases b.f1.all (wrpB b.f0) && numsB b.f1 <;> rfl
              · show impl_BlockOk.l0 (k + 1) b.f1 (b.f1.length : Int) (i : Int) b.f0 b.f1 b.f2 b.f3 b.f4 = _
                rw [impl_BlockOk.l0.eq_2]
                rw [if_pos (by omega), if_pos (by omega), if_pos (by omega), rdWp, wrap_succ hi (by omega)]
                have h2 := hK2 k hk i hi
                rw [h2, Option.bind_some]
                by_cases e : (b.f1.getD i z59).f0 = (i : Int)
                · rw [if_pos e, decide_eq_true e, Bool.true_and]
                · rw [if_neg e, decide_eq_false e]; rfl
              · show impl_BlockOk.l0 (k + 1) b.f1 (b.f1.length : Int) (b.f1.length : Int) b.f0 b.f1 b.f2 b.f3 b.f4 = _
                rw [impl_BlockOk.l0.eq_2]
                rw [if_neg (by omega)]
      · rw [if_neg (by omega), Option.bind_some, decide_eq_false hm]
        simp [impl_BlockOk.j0]

end Go.Proofs.YtmnkbchieplicaaGreatDoor.Q
