/- The pure statement of FnExactFormatBlock. -/
import Derived.Test.YtmnkbchieplicaaGreatDoorKFnExactFormatBlock45
namespace Go.Proofs.YtmnkbchieplicaaGreatDoor.Q
open Go Go.RowKit Go.Proofs.YtmnkbchieplicaaGreatDoorW.PrintWords Go.Proofs.YtmnkbchieplicaaGreatDoorW.PrintLast Go.Proofs.YtmnkbchieplicaaGreatDoorW.PrintMore
set_option linter.unusedVariables false
set_option linter.unusedSimpArgs false

theorem marksW_map (ws : List LWrp) (h : ∀ i, i < ws.length → (ws.getD i ⟨0, [], []⟩).f1.length ≤ 1048576 ∧ (ws.getD i ⟨0, [], []⟩).f2.length ≤ 1048576) : marksW (ws.map tW) ≤ 4194305 * ws.length := by
  induction ws with
  | nil => exact Nat.le_refl _
  | cons x r ih =>
    have h1 := ih fun i hi => h (i + 1) (by simpa using hi)
    have h2 := h 0 (by simp)
    simp only [List.getD_cons_zero] at h2
    simp only [List.map_cons, marksW, tW, List.length_map, List.length_cons]
    omega
theorem getD_map_tW (ws : List LWrp) (i : Nat) (hi : i < ws.length) : (ws.map tW).getD i z59 = tW (ws.getD i ⟨0, [], []⟩) := by
  rw [List.getD_eq_getElem?_getD, List.getD_eq_getElem?_getD, List.getElem?_map, List.getElem?_eq_getElem hi]; rfl
theorem FnExactFormatBlock : ∀ (l0_0 : List S97) (l0_1 : List S87) (l0_2 : List Int) (a0_3 a0_4 : Int), l0_0.length ≤ maxLen → l0_1.length ≤ maxLen → okLens l0_1 → l0_2.length ≤ maxLen → ∃ k, laws_FnExactFormatBlock.f k l0_0 l0_1 l0_2 a0_3 a0_4 = some true := by
  intro c ws m a b h1 h2 h3 h4
  obtain ⟨z, hz, hzs⟩ := szBlock_ev h1 h2 h3 h4 a b
  refine Ev.rounds (Ev.bind hz ?_)
  rcases hzs with hz | ⟨hz, -, hs, hc, hm, hw, hr⟩
  · exact ⟨0, fun k _ => by dsimp only; rw [if_pos hz]⟩
  have hz2 : ¬ z < 0 := by omega
  refine Ev.congr (f := fun k => _) (fun k => by rw [if_neg hz2]) ?_
  obtain ⟨x, hx⟩ : ∃ x : MBlk, x = ⟨c.map tI, ws.map tW, m, a, b⟩ := ⟨_, rfl⟩
  have hto : Ev (fun k => laws_toBlock.f k c ws m a b) (x.f0, x.f1, x.f2, x.f3, x.f4) := by rw [hx]; exact toBlock_ev hs a b
  have hsm : smallB x.f0 x.f1 x.f2 := by rw [hx]; exact hs.small
  have hfew : fewB x := by
    have hmk := marksW_map ws hr
    rw [hx]
    unfold fewB
    simp only [List.length_map]
    exact ⟨by omega, hc, hw, hm, fun i hi => by rw [getD_map_tW ws i hi]; simp only [tW, List.length_map]; exact hr i hi⟩
  obtain ⟨r, hr6, hsp, him⟩ := report_both hsm
  obtain ⟨q, hmk, hhd⟩ := markS_ev r hr6
  have heq := eqS_ev r (by omega)
  have hle := leqBlk_same hsm
  refine Ev.bind hto (Ev.bind hsp ?_)
  obtain ⟨K1, e1⟩ := him
  obtain ⟨K2, e2⟩ := heq
  obtain ⟨K3, e3⟩ := hle
  obtain ⟨K4, e4⟩ := hmk
  obtain ⟨K5, e5⟩ := hhd
  refine ⟨K1 + K2 + K3 + K4 + K5, fun k hk => ?_⟩
  dsimp only
  rw [if_pos ⟨e1 k (by omega), e2 k (by omega), e3 k (by omega), hfew⟩, show laws_markStringS.f k r 1 = some ((r.length : Int) + 1, q) from e4 k (by omega), Option.bind_some, if_pos ⟨e5 k (by omega), by dsimp only; omega⟩]

end Go.Proofs.YtmnkbchieplicaaGreatDoor.Q
