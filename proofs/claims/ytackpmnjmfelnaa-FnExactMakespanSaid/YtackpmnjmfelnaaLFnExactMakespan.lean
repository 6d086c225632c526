/- The pure statement of FnExactMakespan. -/
import Derived.Test.YtackpmnjmfelnaaQ4
import Derived.Test.YtackpmnjmfelnaaPTimes
namespace Go.Proofs.Ytackpmnjmfelnaa.Q
open Go.RowKit Go.Proofs.YtackpmnjmfelnaaW.PrintWords Go.Proofs.YtackpmnjmfelnaaW.PrintLast Go.Proofs.YtackpmnjmfelnaaW.PrintMore
set_option linter.unusedVariables false
set_option linter.unusedSimpArgs false

/-- The greatest element, at least m. -/
def maxL (m : Int) (l : List Int) : Int := l.foldl mx m
theorem le_mx1 (a b : Int) : a ≤ mx a b := by unfold mx; split <;> omega
theorem le_mx2 (a b : Int) : b ≤ mx a b := by unfold mx; split <;> omega
theorem mx_le {a b c : Int} (h1 : a ≤ c) (h2 : b ≤ c) : mx a b ≤ c := by unfold mx; split <;> omega
theorem maxL_cons (m a : Int) (l : List Int) : maxL m (a :: l) = maxL (mx m a) l := rfl
theorem le_maxL (m : Int) (l : List Int) : m ≤ maxL m l := by
  induction l generalizing m with
  | nil => exact Int.le_refl _
  | cons a l ih => exact Int.le_trans (le_mx1 m a) (ih (mx m a))
theorem mem_le_maxL (m : Int) (l : List Int) (x : Int) (h : x ∈ l) : x ≤ maxL m l := by
  induction l generalizing m with
  | nil => simp at h
  | cons a l ih =>
    rcases List.mem_cons.1 h with rfl | h
    · exact Int.le_trans (le_mx2 m x) (le_maxL (mx m x) l)
    · exact ih (mx m a) h
theorem maxL_le (m : Int) (l : List Int) (b : Int) (hm : m ≤ b) (h : ∀ x ∈ l, x ≤ b) : maxL m l ≤ b := by
  induction l generalizing m with
  | nil => exact hm
  | cons a l ih => exact ih (mx m a) (mx_le hm (h a (by simp))) (fun x hx => h x (by simp [hx]))
theorem Max_ev (l : List Int) (hn : 0 < l.length) (h : l.length ≤ 35184372088832) : Ev (fun k => slices_Max_int_int.f k l) (maxL (l.getD 0 0) (l.drop 1)) := by
  have key : ∀ d k (i : Nat) (m : Int), i ≤ l.length → l.length - i = d → d < k → slices_Max_int_int.l0 k l m i = some (maxL m (l.drop i)) := by
    intro d
    induction d with
    | zero =>
      intro k i m hi hd hk
      obtain ⟨k, rfl⟩ : ∃ m, k = m + 1 := ⟨k - 1, by omega⟩
      simp only [slices_Max_int_int.l0]
      rw [if_neg (by omega), List.drop_of_length_le (by omega)]; rfl
    | succ d ih =>
      intro k i m hi hd hk
      obtain ⟨k, rfl⟩ : ∃ m, k = m + 1 := ⟨k - 1, by omega⟩
      have hlt : i < l.length := by omega
      simp only [slices_Max_int_int.l0]
      rw [if_pos (by omega), if_pos (by omega), rd_at l i hlt, wrap_succ hlt (by omega), ih k (i + 1) _ (by omega) (by omega) (by omega), List.drop_eq_getElem_cons hlt]
      rfl
  refine Ev.of (fun k => slices_Max_int_int.mono l k) (k := l.length + 1) ?_
  unfold slices_Max_int_int.f
  rw [if_neg (by omega), if_pos (by omega)]
  exact key (l.length - 1) (l.length + 1) 1 (rd l 0) (by omega) (by omega) (by omega)

/-- What the loads are after the blocks from i on; none: a core that is none. -/
def spans (t a : List Int) : Nat → List Int → Option (List Int)
  | 0, s => some s
  | n + 1, s => if inR 0 7 (rd a ((t.length - (n + 1) : Nat) : Int)) = true then spans t a n (s.set (rd a ((t.length - (n + 1) : Nat) : Int)).toNat (wrap64 (rd s (rd a ((t.length - (n + 1) : Nat) : Int)) + rd t ((t.length - (n + 1) : Nat) : Int)))) else none
theorem rd_mem (t : List Int) (i : Nat) (h : i < t.length) : rd t (i : Int) ∈ t := by rw [rd_at t i h]; exact List.getElem_mem h
theorem impl_spans (t a : List Int) (ha : a.length = t.length) (hl : t.length ≤ 35184372088832) (h0 : ∀ x ∈ t, inR 0 1000000 x = true) :
    ∀ (n : Nat) (s : List Int), n ≤ t.length → s.length = 8 → Ev (fun k => impl_Makespan.l0 k t s a (a.length : Int) ((t.length - n : Nat) : Int)) (match spans t a n s with | some z => maxL (z.getD 0 0) (z.drop 1) | none => -1) := by
  intro n
  induction n with
  | zero =>
    intro s hn hs
    refine Ev.step (f := fun k => (slices_Max_int_int.f k s).bind fun t319 => (some t319)) (fun k => ?_) ?_
    · simp only [impl_Makespan.l0]; rw [if_neg (by omega)]
    · exact Ev.bind (Max_ev s (by omega) (by omega)) (Ev.now _)
  | succ n ih =>
    intro s hn hs
    have hlt : t.length - (n + 1) < t.length := by omega
    have hw : wrap64 (((t.length - (n + 1) : Nat) : Int) + 1) = ((t.length - n : Nat) : Int) := by unfold wrap64; omega
    by_cases hc : inR 0 7 (rd a ((t.length - (n + 1) : Nat) : Int)) = true
    · have hr := (inR_iff _ _ _).1 hc
      refine Ev.step (fun k => ?_) (f := fun k => impl_Makespan.l0 k t (s.set (rd a ((t.length - (n + 1) : Nat) : Int)).toNat (wrap64 (rd s (rd a ((t.length - (n + 1) : Nat) : Int)) + rd t ((t.length - (n + 1) : Nat) : Int)))) a (a.length : Int) ((t.length - n : Nat) : Int)) ?_
      · simp only [impl_Makespan.l0]
        rw [if_pos (by omega), if_pos (by omega), if_pos (by omega), within_f, Option.bind_some, if_pos hc, if_pos hr.1, if_pos (by omega), if_pos (by omega), hw]
      · rw [spans, if_pos hc]
        exact ih _ (by omega) (by simpa using hs)
    · rw [spans, if_neg hc]
      refine Ev.step (f := fun k => some (-1)) (fun k => ?_) (Ev.now _)
      simp only [impl_Makespan.l0]
      rw [if_pos (by omega), if_pos (by omega), if_pos (by omega), within_f, Option.bind_some, if_neg hc]
/-- Loads that stay small: nothing wraps, and the greatest load is the greatest that was reached. -/
theorem spec_spans (t a : List Int) (ha : a.length = t.length) (hl : t.length ≤ 60) (h0 : ∀ x ∈ t, inR 0 1000000 x = true) :
    ∀ (n : Nat) (s : List Int) (m : Int), n ≤ t.length → s.length = 8 → (∀ x ∈ s, 0 ≤ x ∧ x ≤ 1000000 * ((t.length - n : Nat) : Int)) → m = maxL 0 s →
      Ev (fun k => spec_Makespan.l0 k t a s m ((t.length - n : Nat) : Int)) (match spans t a n s with | some z => maxL 0 z | none => -1) := by
  intro n
  induction n with
  | zero =>
    intro s m hn hs hb hm
    refine Ev.step (f := fun k => some m) (fun k => ?_) ?_
    · simp only [spec_Makespan.l0]; rw [if_neg (by omega)]
    · rw [hm]; exact Ev.now _
  | succ n ih =>
    intro s m hn hs hb hm
    have hlt : t.length - (n + 1) < t.length := by omega
    have hw : wrap64 (((t.length - (n + 1) : Nat) : Int) + 1) = ((t.length - n : Nat) : Int) := by unfold wrap64; omega
    by_cases hc : inR 0 7 (rd a ((t.length - (n + 1) : Nat) : Int)) = true
    · have hr := (inR_iff _ _ _).1 hc
      obtain ⟨j, hj⟩ : ∃ j : Nat, rd a ((t.length - (n + 1) : Nat) : Int) = j := ⟨(rd a ((t.length - (n + 1) : Nat) : Int)).toNat, by omega⟩
      have hx := (inR_iff _ _ _).1 (h0 _ (rd_mem t _ hlt))
      have hsj := hb _ (rd_mem s j (by omega))
      have hwr : wrap64 (rd s (j : Int) + rd t ((t.length - (n + 1) : Nat) : Int)) = rd s (j : Int) + rd t ((t.length - (n + 1) : Nat) : Int) := by unfold wrap64; omega
      refine Ev.step (fun k => ?_) (f := fun k => spec_Makespan.l0 k t a (s.set j (rd s (j : Int) + rd t ((t.length - (n + 1) : Nat) : Int))) (mx m (rd s (j : Int) + rd t ((t.length - (n + 1) : Nat) : Int))) ((t.length - n : Nat) : Int)) ?_
      · simp only [spec_Makespan.l0]
        rw [if_pos (by omega), if_pos (by omega), if_pos (by omega), l01In_f, Option.bind_some, if_pos hc, if_pos hr.1, if_pos (by omega), hw, hj, hwr]
        rfl
      · rw [spans, if_pos hc, hj, hwr]
        refine ih _ _ (by omega) (by simpa using hs) ?_ ?_
        · intro x hx2
          rcases List.mem_or_eq_of_mem_set hx2 with h | h
          · have := hb x h; omega
          · omega
        · apply Int.le_antisymm
          · have h1 : rd s (j : Int) + rd t ((t.length - (n + 1) : Nat) : Int) ≤ maxL 0 (s.set j (rd s (j : Int) + rd t ((t.length - (n + 1) : Nat) : Int))) := mem_le_maxL _ _ _ (List.mem_set (by omega) _)
            have h2 : m ≤ maxL 0 (s.set j (rd s (j : Int) + rd t ((t.length - (n + 1) : Nat) : Int))) := by
              rw [hm]
              refine maxL_le _ _ _ (le_maxL _ _) (fun x hx2 => ?_)
              obtain ⟨i, hi, rfl⟩ := List.getElem_of_mem hx2
              by_cases e : i = j
              · subst e
                have h3 := hx.1
                have : rd s (i : Int) = s[i] := rd_at s i hi
                omega
              · refine mem_le_maxL _ _ _ ?_
                have h3 : (s.set j (rd s (j : Int) + rd t ((t.length - (n + 1) : Nat) : Int)))[i]'(by simpa using hi) = s[i] := by rw [List.getElem_set_ne (by omega)]
                rw [← h3]; exact List.getElem_mem _
            exact mx_le h2 h1
          · refine maxL_le _ _ _ ?_ (fun x hx2 => ?_)
            · have := le_maxL 0 s; rw [← hm] at this; exact Int.le_trans this (le_mx1 _ _)
            · rcases List.mem_or_eq_of_mem_set hx2 with h | h
              · have := mem_le_maxL 0 s x h; rw [← hm] at this; exact Int.le_trans this (le_mx1 _ _)
              · rw [h]; exact le_mx2 _ _
    · rw [spans, if_neg hc]
      refine Ev.step (f := fun k => some (-1)) (fun k => ?_) (Ev.now _)
      simp only [spec_Makespan.l0]
      rw [if_pos (by omega), if_pos (by omega), if_pos (by omega), l01In_f, Option.bind_some, if_neg hc]
theorem spans_pos (t a : List Int) (hl : t.length ≤ 60) (h0 : ∀ x ∈ t, inR 0 1000000 x = true) : ∀ (n : Nat) (s z : List Int), n ≤ t.length → s.length = 8 → (∀ x ∈ s, 0 ≤ x ∧ x ≤ 1000000 * ((t.length - n : Nat) : Int)) → spans t a n s = some z → z.length = 8 ∧ ∀ x ∈ z, 0 ≤ x := by
  intro n
  induction n with
  | zero => intro s z hn hs hb h; simp only [spans, Option.some.injEq] at h; subst h; exact ⟨hs, fun x hx => (hb x hx).1⟩
  | succ n ih =>
    intro s z hn hs hb h
    simp only [spans] at h
    by_cases hc : inR 0 7 (rd a ((t.length - (n + 1) : Nat) : Int)) = true
    · rw [if_pos hc] at h
      have hr := (inR_iff _ _ _).1 hc
      have hlt : t.length - (n + 1) < t.length := by omega
      obtain ⟨j, hj⟩ : ∃ j : Nat, rd a ((t.length - (n + 1) : Nat) : Int) = j := ⟨(rd a ((t.length - (n + 1) : Nat) : Int)).toNat, by omega⟩
      have hx := (inR_iff _ _ _).1 (h0 _ (rd_mem t _ hlt))
      have hsj := hb _ (rd_mem s j (by omega))
      have hwr : wrap64 (rd s (j : Int) + rd t ((t.length - (n + 1) : Nat) : Int)) = rd s (j : Int) + rd t ((t.length - (n + 1) : Nat) : Int) := by unfold wrap64; omega
      rw [hj, hwr] at h
      refine ih _ z (by omega) (by simpa using hs) ?_ h
      intro x hx2
      rcases List.mem_or_eq_of_mem_set hx2 with h | h
      · have := hb x h; omega
      · omega
    · rw [if_neg hc] at h; cases h
theorem max_same (z : List Int) (hz : z.length = 8) (h : ∀ x ∈ z, 0 ≤ x) : maxL (z.getD 0 0) (z.drop 1) = maxL 0 z := by
  match z, hz with
  | x :: z, _ =>
    have := h x (by simp)
    have e : mx 0 x = x := by unfold mx; split <;> omega
    simp [maxL, e]

theorem FnExactMakespan : ∀ (l0 : List Int) (l1 : List Int), l0.length ≤ maxLen → l0.length * 8 ≤ 140737488351232 → (∀ x ∈ l0, (Lit.int .i64 x).wf = true) → l1.length ≤ maxLen → l1.length * 8 ≤ 140737488351232 → (∀ x ∈ l1, (Lit.int .i64 x).wf = true) → ∃ k, laws_FnExactMakespan.f k l0 l1 = some true := by
  intro t a _ hl _ _ hl2 _
  obtain ⟨r, e1, e2⟩ : ∃ r, Ev (fun k => spec_Makespan.f k t a) r ∧ Ev (fun k => impl_Makespan.f k t a) r := by
    by_cases hb : timesB t = true ∧ t.length = a.length
    · obtain ⟨h1, h2⟩ := hb
      have h1' := h1
      unfold timesB at h1'
      rw [Bool.and_eq_true, decide_eq_true_eq, List.all_eq_true] at h1'
      have hz : ∀ x ∈ List.replicate 8 (0 : Int), 0 ≤ x ∧ x ≤ 1000000 * ((t.length - t.length : Nat) : Int) := by
        intro x hx; rw [List.eq_of_mem_replicate hx]; omega
      have s1 := spec_spans t a h2.symm h1'.1 h1'.2 t.length (List.replicate 8 0) 0 (Nat.le_refl _) (by simp) hz (by simp [maxL, mx])
      have s2 := impl_spans t a h2.symm (by omega) h1'.2 t.length (List.replicate 8 0) (Nat.le_refl _) (by simp)
      rw [Nat.sub_self] at s1 s2
      refine ⟨match spans t a t.length (List.replicate 8 0) with | some z => maxL 0 z | none => -1, Ev.bind (a := true) (by rw [← h1]; exact spec_TimesOk_ev t (by omega)) ?_, Ev.bind (a := true) (g := fun _ => impl_TimesOk.f t) (by rw [← h1]; simp only [impl_TimesOk_f]; exact Ev.now _) ?_⟩
      · simp only [if_true]
        refine Ev.step (fun k => ?_) s1
        simp [spec_Makespan.j0, h2]
      · simp only [if_true]
        refine Ev.step (fun k => ?_) (f := fun k => impl_Makespan.l0 k t (List.replicate 8 0) a (a.length : Int) 0) ?_
        · simp [impl_Makespan.j0, h2]
        · have : (match spans t a t.length (List.replicate 8 0) with | some z => maxL (z.getD 0 0) (z.drop 1) | none => -1) = (match spans t a t.length (List.replicate 8 0) with | some z => maxL 0 z | none => -1) := by
            cases hq : spans t a t.length (List.replicate 8 0) with
            | none => rfl
            | some z =>
              have := spans_pos t a h1'.1 h1'.2 t.length _ z (Nat.le_refl _) (by simp) hz hq
              exact max_same z this.1 this.2
          rw [← this]
          exact s2
    · refine ⟨-1, Ev.bind (spec_TimesOk_ev t (by omega)) ?_, Ev.bind (a := timesB t) (g := fun _ => impl_TimesOk.f t) (by simp only [impl_TimesOk_f]; exact Ev.now _) ?_⟩
      · refine Ev.step (f := fun _ => some (-1)) (fun k => ?_) (Ev.now _)
        by_cases h1 : timesB t = true
        · have : ((t.length : Int) != (a.length : Int)) = true := by rw [bne_iff_ne]; exact fun e => hb ⟨h1, by omega⟩
          rw [if_pos h1, this]; simp [spec_Makespan.j0]
        · rw [if_neg h1]; simp [spec_Makespan.j0]
      · refine Ev.step (f := fun _ => some (-1)) (fun k => ?_) (Ev.now _)
        by_cases h1 : timesB t = true
        · have : ((t.length : Int) != (a.length : Int)) = true := by rw [bne_iff_ne]; exact fun e => hb ⟨h1, by omega⟩
          rw [if_pos h1, this]; simp [impl_Makespan.j0]
        · rw [if_neg h1]; simp [impl_Makespan.j0]
  obtain ⟨K1, e1⟩ := e1
  obtain ⟨K2, e2⟩ := e2
  obtain ⟨K3, e3⟩ := toIntS_ev t (by omega)
  obtain ⟨K4, e4⟩ := toIntS_ev a (by omega)
  obtain ⟨K5, e5⟩ := eqIntS_ev t (by omega)
  obtain ⟨K6, e6⟩ := eqIntS_ev a (by omega)
  dsimp only at e1 e2 e3 e4 e5 e6
  refine ⟨K1 + K2 + K3 + K4 + K5 + K6, ?_⟩
  unfold laws_FnExactMakespan.f
  by_cases hb : (t.length : Int) > 1048576
  · rw [if_pos hb]
  · by_cases hb2 : (a.length : Int) > 1048576
    · rw [if_neg hb, if_pos hb2]
    · rw [if_neg hb, if_neg hb2, e3 _ (by omega), e4 _ (by omega)]
      simp only [Option.bind_some]
      rw [e1 _ (by omega), Option.bind_some, e2 _ (by omega), Option.bind_some, e5 _ (by omega), Option.bind_some, e6 _ (by omega), Option.bind_some]
      simp

end Go.Proofs.Ytackpmnjmfelnaa.Q
