/- No warp has frames: the reference's and the program's test. -/
import Derived.Test.YtmnkbchieplicaaGreatDoorKFnExactFormatBlock38
namespace Go.Proofs.YtmnkbchieplicaaGreatDoor.Q
open Go Go.RowKit Go.Proofs.YtmnkbchieplicaaGreatDoorW.PrintWords Go.Proofs.YtmnkbchieplicaaGreatDoorW.PrintLast Go.Proofs.YtmnkbchieplicaaGreatDoorW.PrintMore
set_option linter.unusedVariables false
set_option linter.unusedSimpArgs false

theorem sended_ev {c : List MIns} {ws : List MWrp} {m : List Int} {a b : Int} (hl : ws.length < 1000000000) : Ev (fun k => spec_l29Ended.f k c ws m a b) (ws.all fun w => w.f1.isEmpty) := by
  refine ⟨1000000100, fun k hk => ?_⟩
  have h := all_loop0 (l := fun k i => spec_l29Ended.l0 k i c ws m a b) (xs := ws) (z := ⟨0, [], []⟩) (K0 := 0) (f := fun w => w.f1.isEmpty) (E := some true) (k := k)
    (fun k i _ hi => by
      show spec_l29Ended.l0 (k + 1) (i : Int) c ws m a b = _
      rw [spec_l29Ended.l0.eq_2, if_pos (by omega), if_pos (by omega), rd41, wS (by omega)]
      cases (ws.getD i ⟨0, [], []⟩).f1 <;> simp <;> omega)
    (fun k _ => by
      show spec_l29Ended.l0 (k + 1) (ws.length : Int) c ws m a b = _
      rw [spec_l29Ended.l0.eq_2, if_neg (by omega)]) (by omega)
  show spec_l29Ended.f k c ws m a b = _
  unfold spec_l29Ended.f
  refine h.trans ?_
  cases (ws.all fun w => w.f1.isEmpty) <;> simp
theorem iended_ev {c : List MIns} {ws : List MWrp} {m : List Int} {a b : Int} (hl : ws.length < 1000000000) : Ev (fun k => impl_Block_ended.f k c ws m a b) (ws.all fun w => w.f1.isEmpty) := by
  have key : ∀ d (i : Nat), i + d = ws.length → ∃ r : Int, (∀ k, d < k → idxW (fun x => some (!x.f1.isEmpty)) k ws (i : Int) = some r) ∧ (!decide (r ≥ 0)) = (ws.drop i).all (fun w => w.f1.isEmpty) := by
    intro d
    induction d with
    | zero =>
      intro i hi
      refine ⟨-1, fun k hk => ?_, by rw [List.drop_of_length_le (by omega)]; rfl⟩
      obtain ⟨k, rfl⟩ : ∃ m, k = m + 1 := ⟨k - 1, by omega⟩
      rw [idxW.eq_2, if_neg (by omega)]
    | succ d ih =>
      intro i hi
      have hi2 : i < ws.length := by omega
      have e : ws.getD i ⟨0, [], []⟩ = ws[i] := by rw [List.getD_eq_getElem?_getD, List.getElem?_eq_getElem hi2]; rfl
      obtain ⟨r, h1, h2⟩ := ih (i + 1) (by omega)
      cases hq : ws[i].f1.isEmpty with
      | false =>
        refine ⟨(i : Int), fun k hk => ?_, by rw [List.drop_eq_getElem_cons hi2, List.all_cons, hq]; simp⟩
        obtain ⟨k, rfl⟩ : ∃ m, k = m + 1 := ⟨k - 1, by omega⟩
        rw [idxW.eq_2, if_pos (by omega), if_pos (by omega), rd41, e, hq, Option.bind_some, if_pos (by simp)]
      | true =>
        refine ⟨r, fun k hk => ?_, by rw [List.drop_eq_getElem_cons hi2, List.all_cons, hq, Bool.true_and]; exact h2⟩
        obtain ⟨k, rfl⟩ : ∃ m, k = m + 1 := ⟨k - 1, by omega⟩
        rw [idxW.eq_2, if_pos (by omega), if_pos (by omega), rd41, e, hq, Option.bind_some, if_neg (by simp), wS (by omega)]
        exact h1 k (by omega)
  obtain ⟨r, h1, h2⟩ := key ws.length 0 (by omega)
  rw [List.drop_zero] at h2
  refine ⟨1000000100, fun k hk => ?_⟩
  show impl_Block_ended.f k c ws m a b = _
  unfold impl_Block_ended.f conW
  show ((((idxW _ k ws ((0 : Nat) : Int)).bind _).bind _) : Option Bool) = _
  rw [h1 k (by omega), Option.bind_some, Option.bind_some, h2]

end Go.Proofs.YtmnkbchieplicaaGreatDoor.Q
