/- What the functions on the cycles of slots come to. -/
import Derived.Test.YtopckcppmpmcnaaKFnExactResidentFor23
namespace Go.Proofs.Ytopckcppmpmcnaa.Q
open Go.RowKit Go.Maps Go.Proofs.YtopckcppmpmcnaaW.PrintWords Go.Proofs.YtopckcppmpmcnaaW.PrintLast Go.Proofs.YtopckcppmpmcnaaW.PrintMore
set_option linter.unusedVariables false
set_option linter.unusedSimpArgs false

theorem l36Ok_ev (l : List S49) (h : l.length ≤ 1099511627776) : Ev (fun k => spec_l36Ok.f k l) (cycOk l) := by
  have key : ∀ d k (i : Nat), i ≤ l.length → l.length - i = d → d < k → spec_l36Ok.l0 k l i = some ((l.drop i).all fun s => inR 0 1000000 s.f0) := by
    intro d
    induction d with
    | zero =>
      intro k i hi hd hk
      obtain ⟨k, rfl⟩ : ∃ m, k = m + 1 := ⟨k - 1, by omega⟩
      simp only [spec_l36Ok.l0]
      rw [if_neg (by omega), List.drop_of_length_le (by omega)]
      rfl
    | succ d ih =>
      intro k i hi hd hk
      obtain ⟨k, rfl⟩ : ∃ m, k = m + 1 := ⟨k - 1, by omega⟩
      have hlt : i < l.length := by omega
      simp only [spec_l36Ok.l0]
      rw [if_pos (by omega), if_pos (by omega), rdSlot l i hlt, l01In_f, Option.bind_some, List.drop_eq_getElem_cons hlt, List.all_cons]
      by_cases hp : inR 0 1000000 l[i].f0 = true
      · rw [if_pos hp, wrap_succ hlt (by omega), ih k (i + 1) (by omega) (by omega) (by omega), hp]; simp
      · rw [if_neg hp, Bool.eq_false_iff.mpr hp]; simp
  refine Ev.of (fun k => spec_l36Ok.mono l k) (k := l.length + 1) ?_
  unfold spec_l36Ok.f cycOk
  simpa using key l.length (l.length + 1) 0 (by omega) (by omega) (by omega)
theorem spec_CyclesOf_ev (l : List S49) (h : l.length ≤ 1099511627776) : Ev (fun k => spec_CyclesOf.f k l) (cycOf l) := by
  obtain ⟨K, e⟩ := l36Ok_ev l h
  dsimp only at e
  have key : ∀ d k (i : Nat), i ≤ l.length → cycOk l = true → l.length - i = d → K + d < k → spec_CyclesOf.l0 k l ((l.take i).foldl (fun m s => mx m s.f0) (-1) + 1) i = some (cycMax l + 1) := by
    intro d
    induction d with
    | zero =>
      intro k i hi hc hd hk
      obtain ⟨k, rfl⟩ : ∃ m, k = m + 1 := ⟨k - 1, by omega⟩
      simp only [spec_CyclesOf.l0]
      rw [if_neg (by omega), List.take_of_length_le (by omega)]
      rfl
    | succ d ih =>
      intro k i hi hc hd hk
      obtain ⟨k, rfl⟩ : ∃ m, k = m + 1 := ⟨k - 1, by omega⟩
      have hlt : i < l.length := by omega
      have hin : inR 0 1000000 l[i].f0 = true := by
        have := hc
        unfold cycOk at this
        rw [List.all_eq_true] at this
        exact this _ (List.getElem_mem hlt)
      have hb := (inR_iff _ _ _).mp hin
      simp only [spec_CyclesOf.l0]
      rw [if_pos (by omega), e k (by omega), Option.bind_some, if_pos hc, if_pos (by omega), rdSlot l i hlt, wrap_succ hlt (by omega)]
      have hst : mx ((l.take i).foldl (fun m s => mx m s.f0) (-1) + 1) (wrap64 (l[i].f0 + 1)) = (l.take (i + 1)).foldl (fun m s => mx m s.f0) (-1) + 1 := by
        rw [List.take_add_one, List.foldl_append]
        simp only [List.getElem?_eq_getElem hlt, Option.toList_some, List.foldl_cons, List.foldl_nil]
        have hw : wrap64 (l[i].f0 + 1) = l[i].f0 + 1 := by unfold wrap64; omega
        rw [hw]
        unfold mx
        split <;> split <;> omega
      rw [hst]
      exact ih k (i + 1) (by omega) hc (by omega) (by omega)
  refine Ev.of (fun k => spec_CyclesOf.mono l k) (k := K + l.length + 1) ?_
  unfold spec_CyclesOf.f cycOf
  by_cases hc : cycOk l = true
  · rw [if_pos hc]
    have := key l.length (K + l.length + 1) 0 (by omega) hc (by omega) (by omega)
    simpa using this
  · rw [if_neg hc]
    have hne : 0 < l.length := by
      rcases l with _ | ⟨a, r⟩
      · exact absurd rfl hc
      · simp
    simp only [spec_CyclesOf.l0]
    rw [if_pos (by omega), e _ (by omega), Option.bind_some, if_neg hc]
theorem cyc_has_at (l : List S49) (i : Nat) (x : Int) : Maps.has (cycSet l i) (.int .i64 x) = true ↔ ∃ s ∈ l.take i, s.f0 = x := by
  unfold cycSet
  rw [has_setOf _ _ _ (by intro y hy; simp only [cycKeys, List.mem_map] at hy; obtain ⟨s, _, rfl⟩ := hy; trivial), cycKeys]
  simp only [List.any_map, List.any_eq_true, Function.comp_def]
  constructor
  · rintro ⟨s, hs, h⟩; exact ⟨s, hs, by simpa [Lit.sameKey] using h⟩
  · rintro ⟨s, hs, h⟩; exact ⟨s, hs, by simpa [Lit.sameKey] using h⟩
theorem cyc_tidy (l : List S49) (i : Nat) : Tidy (cycSet l i) := by
  unfold cycSet
  exact tidy_setOf _ _ (by intro y hy; simp only [cycKeys, List.mem_map] at hy; obtain ⟨s, _, rfl⟩ := hy; trivial)
theorem spec_IdleCycles_ev (l : List S49) (h : l.length ≤ 1099511627776) : Ev (fun k => spec_IdleCycles.f k l) (cycIdle l) := by
  obtain ⟨K1, e1⟩ := l36Ok_ev l h
  obtain ⟨K2, e2⟩ := spec_CyclesOf_ev l h
  dsimp only at e1 e2
  have key : ∀ d (i : Nat) (seen : List Int), i ≤ l.length → l.length - i = d → Rising seen → (∀ y, y ∈ seen ↔ ∃ s ∈ l.take i, s.f0 = y) → seen.length = Maps.size (cycSet l i) → seen.length ≤ i →
      ∃ K, ∀ k, K ≤ k → spec_IdleCycles.l0 k l seen i = some (wrap64 (cycOf l - (Maps.size (cycSet l l.length) : Nat))) := by
    intro d
    induction d with
    | zero =>
      intro i seen hi hd hs hm hz hzi
      refine ⟨K2 + 1, fun k hk => ?_⟩
      obtain ⟨k, rfl⟩ : ∃ m, k = m + 1 := ⟨k - 1, by omega⟩
      simp only [spec_IdleCycles.l0]
      rw [if_neg (by omega), e2 k (by omega), Option.bind_some, hz, show i = l.length from by omega]
    | succ d ih =>
      intro i seen hi hd hs hm hz hzi
      have hlt : i < l.length := by omega
      obtain ⟨r, ⟨K3, e3⟩, hr, hrm, hrl⟩ := put_ev seen l[i].f0 hs (by omega)
      dsimp only at e3
      have hcs := cycSet_succ l i hlt
      rw [rdSlot l i hlt] at hcs
      have hmem : l[i].f0 ∈ seen ↔ Maps.has (cycSet l i) (.int .i64 l[i].f0) = true := by rw [hm, cyc_has_at]
      have hsz : r.length = Maps.size (cycSet l (i + 1)) := by
        rw [hcs, size_put (cyc_tidy l i), hrl, hz]
        by_cases hx : l[i].f0 ∈ seen
        · rw [if_pos hx, if_pos (hmem.mp hx)]
        · rw [if_neg hx, if_neg (fun h => hx (hmem.mpr h))]
      obtain ⟨K, e⟩ := ih (i + 1) r (by omega) (by omega) hr (fun y => by
        rw [hrm, hm, List.take_add_one]
        simp only [List.getElem?_eq_getElem hlt, Option.toList_some, List.mem_append, List.mem_singleton]
        constructor
        · rintro (⟨s, hs, hy⟩ | rfl)
          · exact ⟨s, .inl hs, hy⟩
          · exact ⟨_, .inr rfl, rfl⟩
        · rintro ⟨s, hs | rfl, hy⟩
          · exact .inl ⟨s, hs, hy⟩
          · exact .inr hy.symm) hsz (by rw [hrl]; split <;> omega)
      refine ⟨K + K3 + 1, fun k hk => ?_⟩
      obtain ⟨k, rfl⟩ : ∃ m, k = m + 1 := ⟨k - 1, by omega⟩
      simp only [spec_IdleCycles.l0]
      rw [if_pos (by omega), if_pos (by omega), rdSlot l i hlt, e3 k (by omega), Option.bind_some, wrap_succ hlt (by omega)]
      exact e k (by omega)
  obtain ⟨K, e⟩ := key l.length 0 [] (by omega) (by omega) List.Pairwise.nil (by simp) (by rw [cycSet_zero]; rfl) (by simp)
  refine Ev.of (fun k => spec_IdleCycles.mono l k) (k := K + K1) ?_
  unfold spec_IdleCycles.f cycIdle
  rw [e1 _ (by omega), Option.bind_some]
  by_cases hc : cycOk l = true
  · rw [if_pos hc, if_pos hc]; exact e _ (by omega)
  · rw [if_neg hc, if_neg hc]

end Go.Proofs.Ytopckcppmpmcnaa.Q
