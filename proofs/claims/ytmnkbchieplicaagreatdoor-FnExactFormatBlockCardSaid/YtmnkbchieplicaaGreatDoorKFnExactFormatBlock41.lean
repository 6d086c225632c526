/- The reference's tests of validity are the Bools of PValid. -/
import Derived.Test.YtmnkbchieplicaaGreatDoorKFnExactFormatBlock40
namespace Go.Proofs.YtmnkbchieplicaaGreatDoor.Q
open Go Go.RowKit Go.Proofs.YtmnkbchieplicaaGreatDoorW.PrintWords Go.Proofs.YtmnkbchieplicaaGreatDoorW.PrintLast Go.Proofs.YtmnkbchieplicaaGreatDoorW.PrintMore
set_option linter.unusedVariables false
set_option linter.unusedSimpArgs false

theorem sprogOk_ev (p : List MIns) (hl : p.length ≤ 9223372036854775807) : Ev (fun k => spec_ProgramOk.f k p) (progB p) := by
  refine ⟨p.length + 8, fun k hk => ?_⟩
  dsimp only
  unfold spec_ProgramOk.f
  rw [all_loop0 (l := fun k i => spec_ProgramOk.l0 k p i) (xs := p) (z := z95) (K0 := 4) (f := insB p.length) (E := some (decide ((p.length : Int) ≤ 32))) (fun k i hk hi => ?_) (fun k _ => ?_) (by omega)]
  · unfold progB
    have e : decide ((p.length : Int) ≤ 32) = decide (p.length ≤ 32) := by rw [Bool.eq_iff_iff, decide_eq_true_eq, decide_eq_true_eq]; omega
    rw [e]
    cases p.all (insB p.length) <;> simp
  · show spec_ProgramOk.l0 (k + 1) p (i : Int) = _
    rw [spec_ProgramOk.l0.eq_2]
    rw [if_pos (by omega), if_pos (by omega), rdI', wrap_succ hi hl, spec_insOk_ev _ _ _ _ _ k (by omega), Option.bind_some]
    rfl
  · show spec_ProgramOk.l0 (k + 1) p (p.length : Int) = _
    rw [spec_ProgramOk.l0.eq_2, if_neg (by omega)]
theorem sareWords_ev (l : List Int) (hl : l.length ≤ 9223372036854775807) : ∀ k, l.length < k → spec_AreWords.f k l = some (wordsB l) := by
  intro k hk
  unfold spec_AreWords.f
  rw [all_loop0 (l := fun k i => spec_AreWords.l0 k l i) (xs := l) (z := 0) (K0 := 0) (f := inR 0 65535) (E := some true) (fun k i hk hi => ?_) (fun k _ => ?_) (by omega)]
  · unfold wordsB
    cases l.all (inR 0 65535) <;> simp
  · show spec_AreWords.l0 (k + 1) l (i : Int) = _
    rw [spec_AreWords.l0.eq_2]
    have hr : rd l (i : Int) = l.getD i 0 := by unfold rd; rw [Int.toNat_natCast]
    rw [if_pos (by omega), if_pos (by omega), hr, wrap_succ hi hl]
    unfold spec_IsWord.f
    rw [l01In_f, Option.bind_some, Option.bind_some]
  · show spec_AreWords.l0 (k + 1) l (l.length : Int) = _
    rw [spec_AreWords.l0.eq_2, if_neg (by omega)]
/-- The test of one frame, the edges with it. -/
def spotB (n : Int) (fs : List MFrm) (i : Nat) : Bool := frmB n (fs.getD i z132) && (!decide (i = 0) || (decide ((fs.getD i z132).f1 = n) && decide ((fs.getD i z132).f2 = 255))) && (!decide (i = fs.length - 1) || !endsF n (fs.getD i z132))
theorem spots_all (n : Int) (fs : List MFrm) (hl : fs.length ≤ 24) : (List.range' 0 fs.length).all (spotB n fs) = frmsB n fs := by
  unfold frmsB edgeB
  rw [decide_eq_true hl, Bool.true_and]
  by_cases he : fs = []
  · subst he; rfl
  · have hp : 0 < fs.length := List.length_pos_iff.mpr he
    have h0 : fs.isEmpty = false := by simpa using he
    have ht : fs.getD (fs.length - 1) z132 = topF fs := topF_rd he z132
    have hz : fs.getD 0 z132 = fs.getD 0 ⟨0, 0, 0⟩ := by
      rw [List.getD_eq_getElem?_getD, List.getD_eq_getElem?_getD, List.getElem?_eq_getElem hp]; rfl
    rw [h0, Bool.false_or, ← range_all (frmB n) z132 fs, ← ht, ← hz]
    unfold spotB
    rw [Bool.eq_iff_iff]
    simp only [List.all_eq_true, List.mem_range'_1, Bool.and_eq_true, Bool.or_eq_true, Bool.not_eq_true', decide_eq_true_eq, decide_eq_false_iff_not]
    constructor
    · intro h
      refine ⟨fun i hi => (h i hi).1.1, ⟨?_, ?_⟩, ?_⟩
      · rcases (h (fs.length - 1) (by omega)).2 with h | h
        · exact absurd rfl h
        · exact h
      · rcases (h 0 (by omega)).1.2 with h | h
        · exact absurd rfl h
        · exact h.1
      · rcases (h 0 (by omega)).1.2 with h | h
        · exact absurd rfl h
        · exact h.2
    · rintro ⟨h1, ⟨h2, h3⟩, h4⟩ i hi
      refine ⟨⟨h1 i hi, ?_⟩, ?_⟩
      · by_cases c : i = 0
        · subst c; exact Or.inr ⟨h3, h4⟩
        · exact Or.inl c
      · by_cases c : i = fs.length - 1
        · subst c; exact Or.inr h2
        · exact Or.inl c
theorem sframes_l0 (p : List MIns) (w : MWrp) (hl : w.f1.length ≤ 24) : ∀ k, 100 ≤ k → spec_WarpOk.l0 k p 0 w.f0 w.f1 w.f2 = some (frmsB p.length w.f1) := by
  intro k hk
  have h := all_loop (fun k i => spec_WarpOk.l0 (2 * k) p i w.f0 w.f1 w.f2)
  have key : ∀ d i k, i + d = w.f1.length → 2 * d < k → spec_WarpOk.l0 k p (i : Int) w.f0 w.f1 w.f2 = some ((List.range' i d).all (spotB p.length w.f1)) := by
    intro d
    induction d with
    | zero =>
      intro i k hi hk
      obtain ⟨k, rfl⟩ : ∃ m, k = m + 1 := ⟨k - 1, by omega⟩
      rw [spec_WarpOk.l0.eq_2, if_neg (by omega)]; rfl
    | succ d ih =>
      intro i k hi hk
      obtain ⟨k, rfl⟩ : ∃ m, k = m + 2 := ⟨k - 2, by omega⟩
      have ih2 := ih (i + 1) k (by omega) (by omega)
      have e : wrap64 ((i : Int) + 1) = ((i + 1 : Nat) : Int) := by unfold wrap64; omega
      have e2 : wrap64 ((w.f1.length : Int) - 1) = ((w.f1.length - 1 : Nat) : Int) := by unfold wrap64; omega
      rw [spec_WarpOk.l0.eq_2, if_pos (by omega), if_pos (by omega), rdFr, List.range'_succ, List.all_cons]
      rw [show spotB p.length w.f1 i = (frmB p.length (w.f1.getD i z132) && (!decide (i = 0) || (decide ((w.f1.getD i z132).f1 = (p.length : Int)) && decide ((w.f1.getD i z132).f2 = 255))) && (!decide (i = w.f1.length - 1) || !endsF p.length (w.f1.getD i z132))) from rfl]
      unfold frmB spec_IsMask.f
      simp only [l01In_f, Option.bind_some]
      have j2 : ∀ x, spec_WarpOk.j2 (k + 1) p (i : Int) x w.f0 w.f1 w.f2 (w.f1.getD i z132).f0 (w.f1.getD i z132).f1 (w.f1.getD i z132).f2 = some (!x && ((!decide (i = 0) || (decide ((w.f1.getD i z132).f1 = (p.length : Int)) && decide ((w.f1.getD i z132).f2 = 255))) && (!decide (i = w.f1.length - 1) || !endsF p.length (w.f1.getD i z132)) && (List.range' (i + 1) d).all (spotB p.length w.f1))) := by
        intro x
        rw [spec_WarpOk.j2.eq_2, e, e2, ih2]
        clear e e2 ih ih2
        generalize w.f1.getD i z132 = f
        unfold endsF
        cases x
        · have c0 : ((i : Int) = 0) ↔ i = 0 := by omega
          have c1 : ((i : Int) = ((w.f1.length - 1 : Nat) : Int)) ↔ i = w.f1.length - 1 := by omega
          simp only [Bool.false_eq_true, if_false, c0, c1]
          generalize (List.range' (i + 1) d).all (spotB p.length w.f1) = L
          rcases Classical.propComplete (i = 0) with a0 | a0 <;> rcases Classical.propComplete (i = w.f1.length - 1) with a1 | a1 <;> rcases Classical.propComplete (f.f1 = (p.length : Int)) with a2 | a2 <;> rcases Classical.propComplete (f.f2 = 255) with a3 | a3 <;> rcases Classical.propComplete (f.f0 = f.f1) with a4 | a4 <;> rcases Classical.propComplete (f.f0 = (p.length : Int)) with a5 | a5 <;> simp only [a0, a1, a2, a3, a4, a5] <;> simp
        · simp
      simp only [j2]
      clear j2 e e2 ih2 ih
      generalize w.f1.getD i z132 = f
      generalize (List.range' (i + 1) d).all (spotB p.length w.f1) = L
      generalize endsF (p.length : Int) f = E
      have e3 : (f.f2 == 0) = decide (f.f2 = 0) := by by_cases h : f.f2 = 0 <;> simp [h]
      rw [e3]
      cases inR 0 (p.length : Int) f.f0 <;> cases inR 0 (p.length : Int) f.f1 <;> cases inR 0 255 f.f2 <;> cases decide (f.f2 = 0) <;> simp [Bool.and_assoc]
  rw [show (0 : Int) = ((0 : Nat) : Int) from rfl, key w.f1.length 0 k (by omega) (by omega), spots_all _ _ hl]
theorem frmsB_long (n : Int) {fs : List MFrm} (h : ¬ fs.length ≤ 24) : frmsB n fs = false := by
  unfold frmsB edgeB
  rw [decide_eq_false h]
  have : fs.isEmpty = false := by
    cases fs with
    | nil => simp at h
    | cons => rfl
  rw [this]; simp
theorem swarpOk_ev (p : List MIns) (w : MWrp) (hl : p.length ≤ 9223372036854775807) : Ev (fun k => spec_WarpOk.f k p w.f0 w.f1 w.f2) (progB p && wrpB p w) := by
  obtain ⟨K, hK⟩ := sprogOk_ev p hl
  refine ⟨K + 200, fun k hk => ?_⟩
  obtain ⟨k, rfl⟩ : ∃ m, k = m + 1 := ⟨k - 1, by omega⟩
  have h := hK (k + 1) (by omega)
  dsimp only at h ⊢
  unfold spec_WarpOk.f wrpB
  rw [h, Option.bind_some]
  have jt : spec_WarpOk.j0 (k + 1) p true w.f0 w.f1 w.f2 = some false := by rw [spec_WarpOk.j0.eq_2, if_pos rfl]
  rw [jt]
  cases progB p
  · simp
  · simp only [if_true, l01In_f, Option.bind_some, Bool.true_and]
    cases inR 0 2 w.f0
    · simp
    · simp only [if_true, Bool.true_and]
      by_cases hr : w.f2.length = 32
      · rw [if_pos (by omega), sareWords_ev _ (by omega) _ (by omega), Option.bind_some, decide_eq_true hr, Bool.true_and]
        cases wordsB w.f2
        · simp
        · simp only [if_true, Bool.true_and]
          by_cases h24 : w.f1.length ≤ 24
          · rw [decide_eq_false (show ¬ (w.f1.length : Int) > 24 by omega), spec_WarpOk.j0.eq_2, if_neg (by simp), sframes_l0 p w h24 k (by omega)]
          · rw [decide_eq_true (show (w.f1.length : Int) > 24 by omega), jt, frmsB_long _ h24]
      · rw [if_neg (by omega), decide_eq_false hr]; simp
theorem sblockOk_ev (b : MBlk) (hl : b.f0.length ≤ 9223372036854775807) : Ev (fun k => spec_BlockOk.f k b.f0 b.f1 b.f2 b.f3 b.f4) (blkB b) := by
  obtain ⟨K1, hK1⟩ := sprogOk_ev b.f0 hl
  obtain ⟨K2, hK2⟩ := ev_all b.f1.length (fun i hi => swarpOk_ev b.f0 (b.f1.getD i z59) hl)
  refine ⟨K1 + K2 + 80, fun k hk => ?_⟩
  obtain ⟨k, rfl⟩ : ∃ m, k = m + 1 := ⟨k - 1, by omega⟩
  have h1 := hK1 (k + 1) (by omega)
  dsimp only at h1 ⊢
  have jt : spec_BlockOk.j0 (k + 1) true b.f0 b.f1 b.f2 b.f3 b.f4 = some false := by rw [spec_BlockOk.j0.eq_2, if_pos rfl]
  unfold spec_BlockOk.f blkB
  rw [h1, Option.bind_some, jt]
  cases hpB : progB b.f0
  · simp
  · simp only [if_true, Bool.true_and, l01In_f, Option.bind_some]
    cases hc : inR 1 3 (b.f1.length : Int)
    · simp
    · have hc2 := (inR_iff _ _ _).1 hc
      simp only [if_true, Bool.true_and]
      by_cases hm : b.f2.length = 32
      · rw [if_pos (by omega), sareWords_ev _ (by omega) _ (by omega), Option.bind_some, decide_eq_true hm, Bool.true_and]
        cases wordsB b.f2
        · simp
        · simp only [if_true, Bool.true_and]
          rw [shl_two _ (by omega) (by omega)]
          cases inR 0 (2 ^ b.f1.length - 2) b.f3
          · simp
          · simp only [if_true, Bool.true_and]
            cases inR 0 100000 b.f4
            · simp [jt]
            · simp only [Bool.not_true, Bool.true_and]
              rw [spec_BlockOk.j0.eq_2, if_neg (by simp)]
              have h := all_loop (fun k i => spec_BlockOk.l0 k i b.f0 b.f1 b.f2 b.f3 b.f4) b.f1.length K2 (fun j => decide ((b.f1.getD j z59).f0 = j) && wrpB b.f0 (b.f1.getD j z59)) (some true) (fun k i hk hi => ?_) (fun k _ => ?_) b.f1.length 0 k (by omega) (by omega)
              · rw [show ((0 : Nat) : Int) = 0 from rfl] at h
                rw [h, nums_all]
                cases b.f1.all (wrpB b.f0) && numsB b.f1 <;> rfl
              · show spec_BlockOk.l0 (k + 1) (i : Int) b.f0 b.f1 b.f2 b.f3 b.f4 = _
                rw [spec_BlockOk.l0.eq_2]
                rw [if_pos (by omega), if_pos (by omega), rdWp, wrap_succ hi (by omega)]
                have h2 := hK2 k hk i hi
                rw [h2, hpB, Bool.true_and, Option.bind_some]
                by_cases e : (b.f1.getD i z59).f0 = (i : Int)
                · rw [if_pos e, decide_eq_true e, Bool.true_and]
                · rw [if_neg e, decide_eq_false e]; simp
              · show spec_BlockOk.l0 (k + 1) (b.f1.length : Int) b.f0 b.f1 b.f2 b.f3 b.f4 = _
                rw [spec_BlockOk.l0.eq_2]
                rw [if_neg (by omega)]
      · rw [if_neg (by omega), decide_eq_false hm]
        simp

end Go.Proofs.YtmnkbchieplicaaGreatDoor.Q
