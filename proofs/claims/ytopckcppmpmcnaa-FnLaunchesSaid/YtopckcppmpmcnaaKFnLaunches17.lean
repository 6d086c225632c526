/- The reference's sorting by insertion is the sorting. -/
import Derived.Test.YtopckcppmpmcnaaKFnLaunches16
namespace Go.Proofs.Ytopckcppmpmcnaa.Q
open Go.RowKit Go.Proofs.YtopckcppmpmcnaaW.PrintWords Go.Proofs.YtopckcppmpmcnaaW.PrintLast Go.Proofs.YtopckcppmpmcnaaW.PrintMore
set_option linter.unusedVariables false
set_option linter.unusedSimpArgs false

def Falling (l : List Int) : Prop := l.Pairwise (fun a b => b ≤ a)
theorem downS_is (l r : List Int) (h1 : Falling r) (h2 : r.Perm l) : r = downS l := by
  have hs : Falling (downS l) := by
    have := List.pairwise_mergeSort (le := fun x y : Int => decide (y ≤ x)) (fun a b c h1 h2 => by simp at *; omega) (fun a b => by simp; omega) l
    exact this.imp (fun h => by simpa using h)
  exact List.Perm.eq_of_pairwise (fun a b _ _ h1 h2 => by omega) h1 hs (h2.trans (List.mergeSort_perm l _).symm)
theorem insertD (acc : List Int) (x : Int) (p : Nat) (hp : p ≤ acc.length) (hs : Falling acc) (hg : ∀ j (h : j < acc.length), p ≤ j → acc[j] < x) (hle : ∀ j (h : j < acc.length), j < p → x ≤ acc[j]) :
    Falling (acc.take p ++ [x] ++ acc.drop p) ∧ (acc.take p ++ [x] ++ acc.drop p).Perm (acc ++ [x]) := by
  have hdrop : ∀ y ∈ acc.drop p, y < x := by
    intro y hy
    obtain ⟨j, hj, rfl⟩ := List.getElem_of_mem hy
    rw [List.getElem_drop]
    rw [List.length_drop] at hj
    exact hg _ _ (by omega)
  have htake : ∀ y ∈ acc.take p, x ≤ y := by
    intro y hy
    obtain ⟨j, hj, rfl⟩ := List.getElem_of_mem hy
    rw [List.getElem_take]
    rw [List.length_take] at hj
    exact hle _ _ (by omega)
  refine ⟨?_, ?_⟩
  · unfold Falling at hs ⊢
    have hs2 := hs
    rw [← List.take_append_drop p acc, List.pairwise_append] at hs2
    rw [List.pairwise_append, List.pairwise_append]
    refine ⟨⟨hs2.1, List.pairwise_singleton _ _, fun a ha b hb => ?_⟩, hs2.2.1, fun a ha b hb => ?_⟩
    · rw [List.mem_singleton] at hb; subst hb; exact htake a ha
    · rw [List.mem_append, List.mem_singleton] at ha
      rcases ha with ha | rfl
      · exact hs2.2.2 a ha b hb
      · exact Int.le_of_lt (hdrop b hb)
  · have h1 : (acc.take p ++ [x] ++ acc.drop p).Perm (acc.take p ++ acc.drop p ++ [x]) := by
      rw [List.append_assoc, List.append_assoc]
      exact List.Perm.append_left _ (List.perm_append_comm)
    rw [List.take_append_drop] at h1
    exact h1

theorem timesB_len' {l : List Int} (h : timesB l = true) : l.length ≤ 60 := by unfold timesB at h; simp only [Bool.and_eq_true, decide_eq_true_eq] at h; exact h.1
theorem spec_SortedTimes_ev (l : List Int) (hl : l.length ≤ 35184372088832) : Ev (fun k => spec_SortedTimes.f k l) (if timesB l = true then downS l else []) := by
  obtain ⟨K0, e0⟩ := spec_TimesOk_ev l hl
  dsimp only at e0
  -- the place of one item
  have inner : ∀ (p k i : Nat) (acc : List Int) (G : List Int), l.length ≤ 60 → i < l.length → acc.length = i → p ≤ acc.length → Falling acc → (∀ j (h : j < acc.length), p ≤ j → acc[j] < l.getD i 0) → p + 2 ≤ k →
      (∀ acc' k', acc'.length = i + 1 → Falling acc' → acc'.Perm (acc ++ [l.getD i 0]) → k - (p + 1) ≤ k' → spec_SortedTimes.l0 k' l acc' ((i + 1 : Nat) : Int) = some G) →
      spec_SortedTimes.l1 k l acc i p = some G := by
    intro p
    induction p with
    | zero =>
      intro k i acc G hn hi ha hp hs hg hk hgo
      obtain ⟨k, rfl⟩ : ∃ m, k = m + 1 := ⟨k - 1, by omega⟩
      have hx : rd l (i : Int) = l.getD i 0 := by simp [rd]
      obtain ⟨f1, f2⟩ := insertD acc (l.getD i 0) 0 (by omega) hs hg (fun j h hj => by omega)
      have hgo' := hgo (acc.take 0 ++ [l.getD i 0] ++ acc.drop 0) k (by simp; omega) f1 f2 (by omega)
      simp only [spec_SortedTimes.l1, Option.bind_some, hx]
      rw [if_neg (by simp), if_pos (by omega), if_pos (by omega)]
      simp only [Int.ofNat_zero, Int.toNat_zero]
      rw [if_pos (by simp), if_pos (by omega), if_pos (by omega), if_pos (by simp), if_pos (by simp; omega), wrap_succ hi (by omega)]
      simpa using hgo'
    | succ p ih =>
      intro k i acc G hn hi ha hp hs hg hk hgo
      obtain ⟨k, rfl⟩ : ∃ m, k = m + 1 := ⟨k - 1, by omega⟩
      have hx : rd l (i : Int) = l.getD i 0 := by simp [rd]
      have hpl : p < acc.length := by omega
      have hw : wrap64 (((p + 1 : Nat) : Int) - 1) = (p : Int) := by unfold wrap64; omega
      simp only [spec_SortedTimes.l1, Option.bind_some, hx, hw]
      rw [if_pos (by omega), if_pos (by omega), if_pos (by omega), if_pos (by omega), if_pos (by omega), rd_at acc p hpl]
      by_cases h : acc[p] < l.getD i 0
      · rw [if_pos h]
        exact ih k i acc G hn hi ha (by omega) hs (fun j hj hpj => by
          by_cases e : p = j
          · subst e; exact h
          · exact hg j hj (by omega)) (by omega) (fun acc' k' h1 h2 h3 h4 => hgo acc' k' h1 h2 h3 (by omega))
      · rw [if_neg h]
        have hle : ∀ j (hj : j < acc.length), j < p + 1 → l.getD i 0 ≤ acc[j] := by
          intro j hj hjp
          by_cases e : j = p
          · subst e; omega
          · have := (List.pairwise_iff_getElem.mp hs) j p hj hpl (by omega)
            omega
        obtain ⟨f1, f2⟩ := insertD acc (l.getD i 0) (p + 1) hp hs hg hle
        have hgo' := hgo (acc.take (p + 1) ++ [l.getD i 0] ++ acc.drop (p + 1)) k (by simp; omega) f1 f2 (by omega)
        rw [if_pos (by omega), if_pos (by omega), Int.toNat_natCast, if_pos (by simp; omega), if_pos (by simp; omega), if_pos (by simp; omega), wrap_succ hi (by omega)]
        simpa using hgo'
  have outer : timesB l = true → ∀ d (i : Nat) (acc : List Int) (k : Nat), i ≤ l.length → l.length - i = d → acc.length = i → Falling acc → acc.Perm (l.take i) → 70 * d + 1 ≤ k → spec_SortedTimes.l0 k l acc i = some (downS l) := by
    intro ht d
    have hn := timesB_len' ht
    induction d with
    | zero =>
      intro i acc k hi hd ha hs hp hk
      obtain ⟨k, rfl⟩ : ∃ m, k = m + 1 := ⟨k - 1, by omega⟩
      simp only [spec_SortedTimes.l0]
      rw [if_neg (by omega)]
      rw [List.take_of_length_le (by omega)] at hp
      rw [downS_is l acc hs hp]
    | succ d ih =>
      intro i acc k hi hd ha hs hp hk
      obtain ⟨k, rfl⟩ : ∃ m, k = m + 1 := ⟨k - 1, by omega⟩
      have hlt : i < l.length := by omega
      simp only [spec_SortedTimes.l0]
      rw [if_pos (by omega)]
      refine inner acc.length k i acc _ hn hlt ha (Nat.le_refl _) hs (fun j hj h => by omega) (by omega) (fun acc' k' h1 h2 h3 h4 => ?_)
      refine ih (i + 1) acc' k' (by omega) (by omega) h1 h2 ?_ (by omega)
      rw [List.take_add_one]
      have : l[i]?.toList = [l.getD i 0] := by simp [hlt]
      rw [this]
      exact h3.trans (List.Perm.append_right _ hp)
  refine Ev.of (fun k => spec_SortedTimes.mono l k) (k := K0 + 70 * l.length + 1) ?_
  unfold spec_SortedTimes.f
  rw [Option.bind_some, e0 _ (by omega), Option.bind_some]
  by_cases h : timesB l = true
  · rw [if_pos h, if_pos h]
    exact outer h l.length 0 [] _ (by omega) (by omega) rfl List.Pairwise.nil (by simp) (by omega)
  · rw [if_neg h, if_neg h]

end Go.Proofs.Ytopckcppmpmcnaa.Q
