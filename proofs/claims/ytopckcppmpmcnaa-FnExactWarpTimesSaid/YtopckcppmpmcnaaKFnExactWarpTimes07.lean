/- The pure statement of FnExactWarpTimes. -/
import Derived.Test.YtopckcppmpmcnaaKFnExactWarpTimes06
namespace Go.Proofs.Ytopckcppmpmcnaa.Q
open Go.RowKit Go.Proofs.YtopckcppmpmcnaaW.PrintWords Go.Proofs.YtopckcppmpmcnaaW.PrintLast Go.Proofs.YtopckcppmpmcnaaW.PrintMore
set_option linter.unusedVariables false
set_option linter.unusedSimpArgs false

def wt (w : Int) (l : List S49) : List Int := (l.filter fun s => decide (s.f1 = w)).map fun s => s.f0
theorem wt_step (w : Int) (l : List S49) (i : Nat) (h : i < l.length) : wt w (l.take (i + 1)) = if (rd_T49 l (i : Int)).f1 = w then wt w (l.take i) ++ [(rd_T49 l (i : Int)).f0] else wt w (l.take i) := by
  rw [rdSlot l i h, List.take_add_one]
  unfold wt
  rw [List.filter_append]
  by_cases e : l[i].f1 = w <;> simp [h, e]
theorem wt_len (w : Int) (l : List S49) : (wt w l).length ≤ l.length := by
  unfold wt; rw [List.length_map]; exact List.length_filter_le _ _
theorem spec_WarpTimes_ev (l : List S49) (w : Int) (hl : l.length ≤ 1048576) : Ev (fun k => spec_WarpTimes.f k l w) (wt w l) := by
  have key : ∀ d k (i : Nat), i ≤ l.length → l.length - i = d → d < k → spec_WarpTimes.l0 k l w (wt w (l.take i)) i = some (wt w l) := by
    intro d
    induction d with
    | zero =>
      intro k i hi hd hk
      obtain ⟨k, rfl⟩ : ∃ m, k = m + 1 := ⟨k - 1, by omega⟩
      simp only [spec_WarpTimes.l0]
      rw [if_neg (by omega), List.take_of_length_le (by omega)]
    | succ d ih =>
      intro k i hi hd hk
      obtain ⟨k, rfl⟩ : ∃ m, k = m + 1 := ⟨k - 1, by omega⟩
      have hlt : i < l.length := by omega
      have hs := wt_step w l i hlt
      have hln := wt_len w (l.take i)
      rw [List.length_take] at hln
      simp only [spec_WarpTimes.l0]
      rw [if_pos (by omega), if_pos (by omega)]
      by_cases e : (rd_T49 l (i : Int)).f1 = w
      · rw [if_pos e] at hs ⊢
        rw [if_pos (by omega), ← hs, wrap_succ hlt (by omega)]
        exact ih k (i + 1) (by omega) (by omega) (by omega)
      · rw [if_neg e] at hs ⊢
        rw [← hs, wrap_succ hlt (by omega)]
        exact ih k (i + 1) (by omega) (by omega) (by omega)
  refine Ev.of (fun k => spec_WarpTimes.mono l w k) (k := l.length + 1) ?_
  unfold spec_WarpTimes.f
  exact key l.length (l.length + 1) 0 (by omega) (by omega) (by omega)
theorem impl_WarpTimes_ev (l : List S49) (w : Int) (hl : l.length ≤ 1048576) : Ev (fun k => impl_WarpTimes.f k l w) (wt w l) := by
  have key : ∀ d k (i : Nat), i ≤ l.length → l.length - i = d → d < k → impl_WarpTimes.l0 k w (wt w (l.take i)) l (l.length : Int) i = some (wt w l) := by
    intro d
    induction d with
    | zero =>
      intro k i hi hd hk
      obtain ⟨k, rfl⟩ : ∃ m, k = m + 1 := ⟨k - 1, by omega⟩
      simp only [impl_WarpTimes.l0]
      rw [if_neg (by omega), List.take_of_length_le (by omega)]
    | succ d ih =>
      intro k i hi hd hk
      obtain ⟨k, rfl⟩ : ∃ m, k = m + 1 := ⟨k - 1, by omega⟩
      have hlt : i < l.length := by omega
      have hs := wt_step w l i hlt
      have hln := wt_len w (l.take i)
      rw [List.length_take] at hln
      simp only [impl_WarpTimes.l0]
      rw [if_pos (by omega), if_pos (by omega), if_pos (by omega)]
      by_cases e : (rd_T49 l (i : Int)).f1 = w
      · rw [if_pos e] at hs ⊢
        rw [if_pos (by omega), ← hs, wrap_succ hlt (by omega)]
        exact ih k (i + 1) (by omega) (by omega) (by omega)
      · rw [if_neg e] at hs ⊢
        rw [← hs, wrap_succ hlt (by omega)]
        exact ih k (i + 1) (by omega) (by omega) (by omega)
  refine Ev.of (fun k => impl_WarpTimes.mono l w k) (k := l.length + 1) ?_
  unfold impl_WarpTimes.f
  exact key l.length (l.length + 1) 0 (by omega) (by omega) (by omega)
theorem FnExactWarpTimes : ∀ (l0 : List S87) (a1 : Int), l0.length ≤ maxLen → (∀ x ∈ l0, (Lit.int .i64 x.f0).wf = true ∧ (Lit.int .i64 x.f1).wf = true ∧ (Lit.int .i64 x.f2).wf = true) → (Lit.int .i64 a1).wf = true → ∃ k, laws_FnExactWarpTimes.f k l0 a1 = some true := by
  intro l w hm _ _
  unfold maxLen at hm
  by_cases hb : l.length ≤ 1048576
  · have hn : (l.map toSlotP).length ≤ 1048576 := by simpa using hb
    have hwl : (wt w (l.map toSlotP)).length ≤ 1048576 := Nat.le_trans (wt_len _ _) hn
    obtain ⟨K1, e1⟩ := toSlotS_ev l hb
    obtain ⟨K2, e2⟩ := spec_WarpTimes_ev (l.map toSlotP) w hn
    obtain ⟨K3, e3⟩ := impl_WarpTimes_ev (l.map toSlotP) w hn
    obtain ⟨K4, e4⟩ := eqIntS_ev (wt w (l.map toSlotP)) (by omega)
    obtain ⟨K5, e5⟩ := eqSlotS_ev (l.map toSlotP) hn
    obtain ⟨K6, z, q, hq, e6⟩ := markSlotS_ev (l.map toSlotP) 1 (by omega) (by omega) hn
    obtain ⟨K7, e7⟩ := markIntS_ev (wt w (l.map toSlotP)) 1 (by omega) (by omega) (by omega)
    obtain ⟨K8, e8⟩ := heldIntS_ev 1 (wt w (l.map toSlotP)).length (by omega) (by omega) (by omega)
    dsimp only at e1 e2 e3 e4 e5 e6 e7 e8
    refine ⟨K1 + K2 + K3 + K4 + K5 + K6 + K7 + K8 + 1, ?_⟩
    generalize hK : K1 + K2 + K3 + K4 + K5 + K6 + K7 + K8 = K
    have f1 := e1 (K + 1) (by omega)
    have f2 := e2 (K + 1) (by omega)
    have f3 := e3 (K + 1) (by omega)
    have f4 := e4 (K + 1) (by omega)
    have f5 := e5 (K + 1) (by omega)
    have f6 := e6 (K + 1) (by omega)
    have g1 := e1 K (by omega)
    have g3 := e3 K (by omega)
    have g4 := e4 K (by omega)
    have g7 := e7 K (by omega)
    have g8 := e8 K (by omega)
    unfold laws_FnExactWarpTimes.f laws_szSlotS.f
    have hw : wrap64 (1048576 - (l.length : Int)) = 1048576 - (l.length : Int) := by unfold wrap64; omega
    rw [hw, if_neg (by omega), Option.bind_some, if_neg (by omega)]
    have hz : ¬ q < 0 := by omega
    have hn : ¬ (1 + ((wt w (l.map toSlotP)).length : Int) < 0) := by omega
    simp only [f1, f2, f3, f4, f5, f6, Option.bind_some, if_true, laws_FnExactWarpTimes.j0, g1, g3, g4, g7, g8, Bool.not_true, Bool.false_eq_true, if_false, hz, hn]
  · refine ⟨0, ?_⟩
    unfold laws_FnExactWarpTimes.f laws_szSlotS.f
    have hw : wrap64 (1048576 - (l.length : Int)) < 0 := by unfold wrap64; omega
    rw [if_pos hw]; simp

end Go.Proofs.Ytopckcppmpmcnaa.Q
