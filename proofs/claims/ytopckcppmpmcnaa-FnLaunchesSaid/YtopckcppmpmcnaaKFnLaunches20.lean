/- What both AssignBlocks come to: each block goes to the first core with the least sum. -/
import Derived.Test.YtopckcppmpmcnaaKFnLaunches19
namespace Go.Proofs.Ytopckcppmpmcnaa.Q
open Go.RowKit Go.Proofs.YtopckcppmpmcnaaW.PrintWords Go.Proofs.YtopckcppmpmcnaaW.PrintLast Go.Proofs.YtopckcppmpmcnaaW.PrintMore
set_option linter.unusedVariables false
set_option linter.unusedSimpArgs false

/-- The first place of the least of the items 0 .. n. -/
def am (s : List Int) : Nat → Nat
  | 0 => 0
  | n + 1 => if rd s ((n + 1 : Nat) : Int) < rd s ((am s n : Nat) : Int) then n + 1 else am s n
theorem am_le (s : List Int) : ∀ n, am s n ≤ n
  | 0 => Nat.le_refl _
  | n + 1 => by
    have := am_le s n
    unfold am; split <;> omega
theorem am_min (s : List Int) : ∀ n i, i ≤ n → rd s ((am s n : Nat) : Int) ≤ rd s (i : Int)
  | 0, i, h => by obtain rfl : i = 0 := by omega
                  exact Int.le_refl _
  | n + 1, i, h => by
    have ih := am_min s n
    unfold am
    by_cases e : i = n + 1
    · subst e; split <;> omega
    · have := ih i (by omega)
      split <;> omega
theorem am_first (s : List Int) : ∀ n i, i < am s n → rd s ((am s n : Nat) : Int) < rd s (i : Int)
  | 0, i, h => by unfold am at h; omega
  | n + 1, i, h => by
    have ih := am_first s n
    have hm := am_min s n
    unfold am at h ⊢
    split at h
    · rename_i hc
      rw [if_pos hc]
      have := hm i (by omega)
      omega
    · rename_i hc
      rw [if_neg hc]
      exact ih i h
/-- The cores of the blocks, one after the other. -/
def asg : List Int → List Int → List Int → List Int
  | [], _, out => out
  | t :: ts, s, out => asg ts (s.set (am s (s.length - 1)) (wrap64 (rd s ((am s (s.length - 1) : Nat) : Int) + t))) (out ++ [((am s (s.length - 1) : Nat) : Int)])
theorem min_f (s : List Int) (h0 : 0 < s.length) (h1 : s.length ≤ 1000) : ∀ k, s.length < k → slices_Min_int_int.f k s = some (rd s ((am s (s.length - 1) : Nat) : Int)) := by
  have key : ∀ d k (i : Nat), i < s.length → s.length - (i + 1) = d → d < k → slices_Min_int_int.l0 k s (rd s ((am s i : Nat) : Int)) ((i + 1 : Nat) : Int) = some (rd s ((am s (s.length - 1) : Nat) : Int)) := by
    intro d
    induction d with
    | zero =>
      intro k i hi hd hk
      obtain ⟨k, rfl⟩ : ∃ m, k = m + 1 := ⟨k - 1, by omega⟩
      simp only [slices_Min_int_int.l0]
      rw [if_neg (by omega), show s.length - 1 = i from by omega]
    | succ d ih =>
      intro k i hi hd hk
      obtain ⟨k, rfl⟩ : ∃ m, k = m + 1 := ⟨k - 1, by omega⟩
      simp only [slices_Min_int_int.l0]
      rw [if_pos (by omega), if_pos (by omega), wrap_succ (n := s.length) (by omega) (by omega)]
      have ham : am s (i + 1) = if rd s ((i + 1 : Nat) : Int) < rd s ((am s i : Nat) : Int) then i + 1 else am s i := rfl
      have hm : mn (rd s ((am s i : Nat) : Int)) (rd s ((i + 1 : Nat) : Int)) = rd s ((am s (i + 1) : Nat) : Int) := by
        by_cases e : rd s ((i + 1 : Nat) : Int) < rd s ((am s i : Nat) : Int)
        · rw [if_pos e] at ham; rw [ham]; unfold mn; split <;> omega
        · rw [if_neg e] at ham; rw [ham]; unfold mn; split <;> omega
      rw [hm]
      exact ih k (i + 1) (by omega) (by omega) (by omega)
  intro k hk
  unfold slices_Min_int_int.f
  rw [if_neg (by omega), if_pos (by omega)]
  exact key (s.length - 1) k 0 (by omega) (by omega) (by omega)
theorem index_f (s : List Int) (v : Int) (j : Nat) (hj : j < s.length) (hv : rd s (j : Int) = v) (hf : ∀ i, i < j → rd s (i : Int) ≠ v) (h1 : s.length ≤ 1000) : ∀ k, s.length < k → slices_Index_int_int.f k s v = some (j : Int) := by
  have key : ∀ d k (i : Nat), i ≤ j → j - i = d → d < k → slices_Index_int_int.l0 k s v (s.length : Int) i = some (j : Int) := by
    intro d
    induction d with
    | zero =>
      intro k i hi hd hk
      obtain ⟨k, rfl⟩ : ∃ m, k = m + 1 := ⟨k - 1, by omega⟩
      simp only [slices_Index_int_int.l0]
      obtain rfl : i = j := by omega
      rw [if_pos (by omega), if_pos (by omega), if_pos (by omega), if_pos hv.symm]
    | succ d ih =>
      intro k i hi hd hk
      obtain ⟨k, rfl⟩ : ∃ m, k = m + 1 := ⟨k - 1, by omega⟩
      simp only [slices_Index_int_int.l0]
      rw [if_pos (by omega), if_pos (by omega), if_pos (by omega), if_neg (fun h => hf i (by omega) h.symm), wrap_succ (n := s.length) (by omega) (by omega)]
      exact ih k (i + 1) (by omega) (by omega) (by omega)
  intro k hk
  unfold slices_Index_int_int.f
  exact key j k 0 (by omega) (by omega) (by omega)
/-- The answer: nothing, if the arguments are bad. -/
def asgZ (l : List Int) (c : Int) : List Int := if timesB l = true ∧ inR 1 8 c = true then asg l (List.replicate c.toNat 0) [] else []
theorem asg_len : ∀ (l s o : List Int), (asg l s o).length = o.length + l.length
  | [], s, o => by simp [asg]
  | t :: ts, s, o => by simp only [asg]; rw [asg_len]; simp; omega
theorem timesB_len {l : List Int} (h : timesB l = true) : l.length ≤ 60 := by unfold timesB at h; simp only [Bool.and_eq_true, decide_eq_true_eq] at h; exact h.1
theorem spec_AssignBlocks_ev (l : List Int) (c : Int) (hl : l.length ≤ 35184372088832) : Ev (fun k => spec_AssignBlocks.f k l c) (asgZ l c) := by
  refine Ev.bind (g := fun k => spec_TimesOk.f k l) (a := timesB l) (f := fun k t697 => if t697 = true then ((spec_l01In.f c 1 8).bind fun t698 => (spec_AssignBlocks.j0 k l c [] (!t698))) else (spec_AssignBlocks.j0 k l c [] true)) (spec_TimesOk_ev l hl) ?_
  by_cases ht : timesB l = true
  · by_cases hc : inR 1 8 c = true
    · have hn := timesB_len ht
      rw [inR_iff] at hc
      have inner : ∀ d k (s o : List Int) (i j : Nat) (g : List Int), s.length = c.toNat → i < l.length → j < s.length → s.length - (j + 1) = d → d < k →
          (∀ k', k - (d + 1) ≤ k' → o.length < 1000 → spec_AssignBlocks.l0 k' l c (o ++ [((am s (s.length - 1) : Nat) : Int)]) (s.set (am s (s.length - 1)) (wrap64 (rd s ((am s (s.length - 1) : Nat) : Int) + rd l (i : Int)))) ((i + 1 : Nat) : Int) = some g) → o.length < 1000 →
          spec_AssignBlocks.l1 k l c o s i ((am s j : Nat) : Int) ((j + 1 : Nat) : Int) = some g := by
        intro d
        induction d with
        | zero =>
          intro k s o i j g hs hi hj hd hk hgo ho
          obtain ⟨k, rfl⟩ : ∃ m, k = m + 1 := ⟨k - 1, by omega⟩
          have hle := am_le s j
          have hj1 : s.length - 1 = j := by omega
          rw [hj1] at hgo
          simp only [spec_AssignBlocks.l1]
          rw [if_neg (by omega), if_pos (by omega), if_pos (by omega), if_pos (by omega), if_pos (by omega), if_pos (by omega), wrap_succ hi (by omega), Int.toNat_natCast]
          exact hgo k (by omega) ho
        | succ d ih =>
          intro k s o i j g hs hi hj hd hk hgo ho
          obtain ⟨k, rfl⟩ : ∃ m, k = m + 1 := ⟨k - 1, by omega⟩
          have hle := am_le s j
          have ham : am s (j + 1) = if rd s ((j + 1 : Nat) : Int) < rd s ((am s j : Nat) : Int) then j + 1 else am s j := rfl
          simp only [spec_AssignBlocks.l1]
          rw [if_pos (by omega), if_pos (by omega), if_pos (by omega), if_pos (by omega), if_pos (by omega), wrap_succ (n := s.length) (by omega) (by omega)]
          have hgo' : ∀ k', k - (d + 1) ≤ k' → o.length < 1000 → spec_AssignBlocks.l0 k' l c (o ++ [((am s (s.length - 1) : Nat) : Int)]) (s.set (am s (s.length - 1)) (wrap64 (rd s ((am s (s.length - 1) : Nat) : Int) + rd l (i : Int)))) ((i + 1 : Nat) : Int) = some g := fun k' h1 h2 => hgo k' (by omega) h2
          have := ih k s o i (j + 1) g hs hi (by omega) (by omega) (by omega) hgo' ho
          by_cases e : rd s ((j + 1 : Nat) : Int) < rd s ((am s j : Nat) : Int)
          · rw [if_pos e] at ham ⊢; rw [ham] at this; exact this
          · rw [if_neg e] at ham ⊢; rw [ham] at this; exact this
      have outer : ∀ d k (s o : List Int) (i : Nat), s.length = c.toNat → i ≤ l.length → l.length - i = d → o.length = i → 20 * d < k → spec_AssignBlocks.l0 k l c o s i = some (asg (l.drop i) s o) := by
        intro d
        induction d with
        | zero =>
          intro k s o i hs hi hd ho hk
          obtain ⟨k, rfl⟩ : ∃ m, k = m + 1 := ⟨k - 1, by omega⟩
          simp only [spec_AssignBlocks.l0]
          rw [if_neg (by omega), List.drop_of_length_le (by omega)]
          rfl
        | succ d ih =>
          intro k s o i hs hi hd ho hk
          obtain ⟨k, rfl⟩ : ∃ m, k = m + 1 := ⟨k - 1, by omega⟩
          have hlt : i < l.length := by omega
          simp only [spec_AssignBlocks.l0]
          rw [if_pos (by omega), List.drop_eq_getElem_cons hlt, asg]
          refine inner (s.length - 1) k s o i 0 _ hs hlt (by omega) (by omega) (by omega) ?_ (by omega)
          intro k' hk' _
          rw [rd_at l i hlt]
          exact ih k' _ _ (i + 1) (by simp; omega) (by omega) (by omega) (by simp; omega) (by omega)
      refine Ev.of (fun k => ?_) (k := 20 * l.length + 2) ?_
      · refine LeO.ite (LeO.bind (LeO.refl _) fun _ => ?_) ?_
        · exact (spec_AssignBlocks.mono_l k).1 _ _ _ _
        · exact (spec_AssignBlocks.mono_l k).1 _ _ _ _
      · rw [if_pos ht, l01In_f, Option.bind_some, show inR 1 8 c = true from (inR_iff _ _ _).mpr hc]
        simp only [spec_AssignBlocks.j0, Bool.not_true, Bool.false_eq_true, if_false]
        rw [if_pos (by omega), if_pos (by omega)]
        unfold asgZ
        rw [if_pos ⟨ht, (inR_iff _ _ _).mpr hc⟩]
        exact outer l.length _ _ [] 0 (by simp) (by omega) (by omega) rfl (by omega)
    · refine Ev.of (fun k => ?_) (k := 2) ?_
      · refine LeO.ite (LeO.bind (LeO.refl _) fun _ => ?_) ?_
        · exact (spec_AssignBlocks.mono_l k).1 _ _ _ _
        · exact (spec_AssignBlocks.mono_l k).1 _ _ _ _
      · rw [if_pos ht, l01In_f, Option.bind_some, Bool.eq_false_iff.mpr hc]
        unfold asgZ
        rw [if_neg (fun h => hc h.2)]
        simp [spec_AssignBlocks.j0]
  · refine Ev.of (fun k => ?_) (k := 2) ?_
    · refine LeO.ite (LeO.bind (LeO.refl _) fun _ => ?_) ?_
      · exact (spec_AssignBlocks.mono_l k).1 _ _ _ _
      · exact (spec_AssignBlocks.mono_l k).1 _ _ _ _
    · unfold asgZ
      rw [if_neg ht, if_neg (fun h => ht h.1)]
      simp [spec_AssignBlocks.j0]
theorem impl_areCores_f (l : List Int) (c : Int) : impl_areCores.f l c = some (timesB l && inR 1 8 c) := by
  unfold impl_areCores.f
  rw [impl_TimesOk_f, Option.bind_some, within_f]
  cases timesB l <;> simp
theorem impl_AssignBlocks_ev (l : List Int) (c : Int) : Ev (fun k => impl_AssignBlocks.f k l c) (asgZ l c) := by
  have outer : ∀ d k (s o : List Int) (i : Nat), 0 < s.length → s.length ≤ 8 → l.length ≤ 60 → i ≤ l.length → l.length - i = d → o.length = i → d + 20 < k → impl_AssignBlocks.l0 k s o l (l.length : Int) i = some (asg (l.drop i) s o) := by
    intro d
    induction d with
    | zero =>
      intro k s o i hs hs1 hl hi hd ho hk
      obtain ⟨k, rfl⟩ : ∃ m, k = m + 1 := ⟨k - 1, by omega⟩
      simp only [impl_AssignBlocks.l0]
      rw [if_neg (by omega), List.drop_of_length_le (by omega)]
      rfl
    | succ d ih =>
      intro k s o i hs hs1 hl hi hd ho hk
      obtain ⟨k, rfl⟩ : ∃ m, k = m + 1 := ⟨k - 1, by omega⟩
      have hlt : i < l.length := by omega
      have hle := am_le s (s.length - 1)
      simp only [impl_AssignBlocks.l0]
      rw [if_pos (by omega), if_pos (by omega), if_pos (by omega), min_f s hs (by omega) k (by omega), Option.bind_some,
        index_f s _ (am s (s.length - 1)) (by omega) rfl (fun i hi h => by have := am_first s (s.length - 1) i hi; omega) (by omega) k (by omega), Option.bind_some,
        if_pos (by omega), if_pos (by omega), if_pos (by omega), wrap_succ hlt (by omega), Int.toNat_natCast, List.drop_eq_getElem_cons hlt, asg, rd_at l i hlt]
      exact ih k _ _ (i + 1) (by simp; omega) (by simp; omega) hl (by omega) (by omega) (by simp; omega) (by omega)
  refine Ev.of (fun k => impl_AssignBlocks.mono l c k) (k := l.length + 22) ?_
  unfold impl_AssignBlocks.f asgZ
  rw [impl_areCores_f, Option.bind_some]
  by_cases h : timesB l = true ∧ inR 1 8 c = true
  · have hn := timesB_len h.1
    have hc := (inR_iff _ _ _).mp h.2
    rw [if_pos (by simp [h]), if_pos h, if_pos (by omega), if_pos (by omega)]
    exact outer l.length _ _ [] 0 (by simp; omega) (by simp; omega) hn (by omega) (by omega) rfl (by omega)
  · rw [if_neg h, if_neg (by simpa using h)]

end Go.Proofs.Ytopckcppmpmcnaa.Q
