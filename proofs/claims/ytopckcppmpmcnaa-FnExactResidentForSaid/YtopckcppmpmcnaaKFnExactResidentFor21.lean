/- What the insertion into a rising list comes to. -/
import Derived.Test.YtopckcppmpmcnaaKFnExactResidentFor20
namespace Go.Proofs.Ytopckcppmpmcnaa.Q
open Go.RowKit Go.Proofs.YtopckcppmpmcnaaW.PrintWords Go.Proofs.YtopckcppmpmcnaaW.PrintLast Go.Proofs.YtopckcppmpmcnaaW.PrintMore
set_option linter.unusedVariables false
set_option linter.unusedSimpArgs false

def Rising (l : List Int) : Prop := l.Pairwise (· < ·)
theorem put_ev (l : List Int) (x : Int) (hs : Rising l) (hl : l.length ≤ 1099511627776) : ∃ r, Ev (fun k => spec_l04Put.f k l x) r ∧ Rising r ∧ (∀ y, y ∈ r ↔ y ∈ l ∨ y = x) ∧ r.length = if x ∈ l then l.length else l.length + 1 := by
  -- the place: everything from it on is greater
  have key : ∀ (i : Nat), i ≤ l.length → (∀ j (h : j < l.length), i ≤ j → x < l[j]) → ∃ r, (∀ k, i < k → spec_l04Put.l0 k l x i = some r) ∧ Rising r ∧ (∀ y, y ∈ r ↔ y ∈ l ∨ y = x) ∧ r.length = if x ∈ l then l.length else l.length + 1 := by
    have insert_at : ∀ (i : Nat), i ≤ l.length → (∀ j (h : j < l.length), i ≤ j → x < l[j]) → (∀ j (h : j < l.length), j < i → l[j] < x) → Rising (l.take i ++ [x] ++ l.drop i) ∧ (∀ y, y ∈ (l.take i ++ [x] ++ l.drop i) ↔ y ∈ l ∨ y = x) ∧ (l.take i ++ [x] ++ l.drop i).length = if x ∈ l then l.length else l.length + 1 := by
      intro i hi hg hle
      have hdrop : ∀ y ∈ l.drop i, x < y := by
        intro y hy
        obtain ⟨j, hj, rfl⟩ := List.getElem_of_mem hy
        rw [List.getElem_drop]
        rw [List.length_drop] at hj
        exact hg _ _ (by omega)
      have htake : ∀ y ∈ l.take i, y < x := by
        intro y hy
        obtain ⟨j, hj, rfl⟩ := List.getElem_of_mem hy
        rw [List.getElem_take]
        rw [List.length_take] at hj
        exact hle _ _ (by omega)
      have hnot : x ∉ l := by
        intro hx
        rw [← List.take_append_drop i l, List.mem_append] at hx
        rcases hx with h | h
        · have := htake x h; omega
        · have := hdrop x h; omega
      refine ⟨?_, ?_, ?_⟩
      · unfold Rising at hs ⊢
        have hs2 := hs
        rw [← List.take_append_drop i l, List.pairwise_append] at hs2
        rw [List.pairwise_append, List.pairwise_append]
        refine ⟨⟨hs2.1, List.pairwise_singleton _ _, fun a ha b hb => ?_⟩, hs2.2.1, fun a ha b hb => ?_⟩
        · rw [List.mem_singleton] at hb; subst hb; exact htake a ha
        · rw [List.mem_append, List.mem_singleton] at ha
          rcases ha with ha | rfl
          · exact hs2.2.2 a ha b hb
          · exact hdrop b hb
      · intro y
        simp only [List.mem_append, List.mem_singleton]
        have e : y ∈ l ↔ y ∈ l.take i ∨ y ∈ l.drop i := by rw [← List.mem_append, List.take_append_drop]
        rw [e]
        constructor
        · rintro ((h | h) | h)
          · exact .inl (.inl h)
          · exact .inr h
          · exact .inl (.inr h)
        · rintro ((h | h) | h)
          · exact .inl (.inl h)
          · exact .inr h
          · exact .inl (.inr h)
      · rw [if_neg hnot]
        simp; omega
    intro i
    induction i with
    | zero =>
      intro hi hg
      obtain ⟨h1, h2, h3⟩ := insert_at 0 hi hg (fun j h hj => by omega)
      refine ⟨_, ?_, h1, h2, h3⟩
      intro k hk
      obtain ⟨k, rfl⟩ : ∃ m, k = m + 1 := ⟨k - 1, by omega⟩
      simp only [spec_l04Put.l0, Option.bind_some]
      rw [if_neg (by simp)]
      simp only [Int.ofNat_zero, Int.toNat_zero, List.take_zero, List.drop_zero, List.nil_append, List.append_nil, List.length_nil, List.length_singleton]
      simp
      omega
    | succ i ih =>
      intro hi hg
      have hlt : i < l.length := by omega
      have hw : wrap64 (((i + 1 : Nat) : Int) - 1) = (i : Int) := by unfold wrap64; omega
      by_cases h1 : x < l[i]
      · obtain ⟨r, h, h2⟩ := ih (by omega) (fun j hj hij => by
          by_cases e : i = j
          · subst e; exact h1
          · exact hg j hj (by omega))
        refine ⟨r, fun k hk => ?_, h2⟩
        obtain ⟨k, rfl⟩ : ∃ m, k = m + 1 := ⟨k - 1, by omega⟩
        simp only [spec_l04Put.l0, hw]
        rw [if_pos (by omega), if_pos (by omega), if_pos (by omega), rd_at l i hlt, if_pos h1]
        exact h k (by omega)
      · by_cases h2 : l[i] = x
        · refine ⟨l, fun k hk => ?_, hs, fun y => ?_, ?_⟩
          · obtain ⟨k, rfl⟩ : ∃ m, k = m + 1 := ⟨k - 1, by omega⟩
            simp only [spec_l04Put.l0, hw]
            rw [if_pos (by omega), if_pos (by omega), if_pos (by omega), rd_at l i hlt, if_neg (by omega), if_pos h2]
          · constructor
            · exact .inl
            · rintro (h | rfl)
              · exact h
              · rw [← h2]; exact List.getElem_mem hlt
          · rw [if_pos (by rw [← h2]; exact List.getElem_mem hlt)]
        · have hlow : ∀ j (h : j < l.length), j < i + 1 → l[j] < x := by
            intro j h hj
            by_cases e : j = i
            · subst e; omega
            · unfold Rising at hs
              have := (List.pairwise_iff_getElem.mp hs) j i h hlt (by omega)
              omega
          obtain ⟨g1, g2, g3⟩ := insert_at (i + 1) hi hg hlow
          refine ⟨_, ?_, g1, g2, g3⟩
          intro k hk
          obtain ⟨k, rfl⟩ : ∃ m, k = m + 1 := ⟨k - 1, by omega⟩
          simp only [spec_l04Put.l0, hw, Option.bind_some]
          rw [if_pos (by omega), if_pos (by omega), if_pos (by omega), rd_at l i hlt, if_neg (by omega), if_neg h2, if_pos (by omega), if_pos (by omega), Int.toNat_natCast]
          rw [if_pos (by simp; omega), if_pos (by simp; omega), if_pos (by simp; omega)]
          simp
  obtain ⟨r, h, h2⟩ := key l.length (Nat.le_refl _) (fun j h hj => by omega)
  refine ⟨r, Ev.of (fun k => spec_l04Put.mono l x k) (k := l.length + 1) ?_, h2⟩
  unfold spec_l04Put.f
  exact h _ (by omega)

end Go.Proofs.Ytopckcppmpmcnaa.Q
