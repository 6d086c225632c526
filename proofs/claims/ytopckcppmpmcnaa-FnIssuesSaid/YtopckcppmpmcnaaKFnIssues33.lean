/- More draws: a number out of a list, the twelve places. -/
import Derived.Test.YtopckcppmpmcnaaKFnIssues32
namespace Go.Proofs.Ytopckcppmpmcnaa.Q
open Go.RowKit Go.Proofs.YtopckcppmpmcnaaW.PrintWords Go.Proofs.YtopckcppmpmcnaaW.PrintLast Go.Proofs.YtopckcppmpmcnaaW.PrintMore
set_option linter.unusedVariables false
set_option linter.unusedSimpArgs false

theorem l01PickInt_f (b : List Int) (i h : Int) (l : List Int) (hi : 0 ≤ i) (hb : b.length ≤ 140737488351232) (hl : 0 < l.length) :
    ∃ v i' h', spec_l01PickInt.f b i h l = some (v, i', h') ∧ 0 ≤ i' ∧ v ∈ l := by
  unfold spec_l01PickInt.f
  obtain ⟨v, i', h', e, hi', _, hv⟩ := l01Below_f b i h (l.length : Int) hi hb
  have hv := hv (by omega)
  rw [e, Option.bind_some]
  dsimp only
  rw [if_pos hv.1, if_pos hv.2]
  refine ⟨_, _, _, rfl, hi', ?_⟩
  obtain ⟨j, rfl⟩ := Int.eq_ofNat_of_zero_le hv.1
  have hj : j < l.length := by omega
  simp [rd, List.getD_eq_getElem?_getD, hj]
theorem DrawPlaces_ev (l : List Int) (hl : l.length ≤ 140737488351232) : ∃ p : List Int, p.length = 12 ∧ (∀ x ∈ p, 0 ≤ x ∧ x < 10000) ∧ Ev (fun k => spec_DrawPlaces.f k l) p := by
  obtain ⟨h, hn⟩ := l01New_ev l hl
  have key : ∀ d (j : Nat) (acc : List Int) (i h : Int), j + d = 12 → acc.length = j → (∀ x ∈ acc, 0 ≤ x ∧ x < 10000) → 0 ≤ i → ∃ p : List Int, p.length = 12 ∧ (∀ x ∈ p, 0 ≤ x ∧ x < 10000) ∧ Ev (fun k => spec_DrawPlaces.l0 k acc (j : Int) l i h) p := by
    intro d
    induction d with
    | zero =>
      intro j acc i h hj ha hx hi
      exact ⟨acc, by omega, hx, Ev.step (f := fun _ => some acc) (fun k => by simp only [spec_DrawPlaces.l0]; rw [if_neg (by omega)]) (Ev.now _)⟩
    | succ d ih =>
      intro j acc i h hj ha hx hi
      obtain ⟨v, i', h', e, hi', _, hv⟩ := l01Below_f l i h 10000 hi hl
      have hv := hv (by omega)
      obtain ⟨p, hp, hq, hr⟩ := ih (j + 1) (acc ++ [v]) i' h' (by omega) (by simp; omega) (by intro x hx'; rcases List.mem_append.1 hx' with h | h; exact hx x h; rw [List.mem_singleton] at h; subst h; exact hv) hi'
      have hw : wrap64 ((j : Int) + 1) = ((j + 1 : Nat) : Int) := by unfold wrap64; omega
      refine ⟨p, hp, hq, Ev.step (fun k => ?_) hr⟩
      simp only [spec_DrawPlaces.l0]
      rw [if_pos (by omega), e, Option.bind_some, if_pos (by omega), hw]
  obtain ⟨p, hp, hq, hr⟩ := key 12 0 [] 0 h (by omega) rfl (by simp) (by omega)
  exact ⟨p, hp, hq, Ev.bind hn hr⟩

end Go.Proofs.Ytopckcppmpmcnaa.Q
