/- Lists that are drawn; how the times, the critical path and the sum of the latencies lie to each other. -/
import Derived.Test.YtopckcppmpmcnaaKFnIssues33
namespace Go.Proofs.Ytopckcppmpmcnaa.Q
open Go.RowKit Go.Proofs.YtopckcppmpmcnaaW.PrintWords Go.Proofs.YtopckcppmpmcnaaW.PrintLast Go.Proofs.YtopckcppmpmcnaaW.PrintMore
set_option linter.unusedVariables false
set_option linter.unusedSimpArgs false

theorem good_mem (op a b : Int) (h : op = 13 ∨ op = 14 ∨ op = 15) (ha : 0 ≤ a ∧ a < 4) (hb : 0 ≤ b ∧ b < 4) : insGood ⟨op, a, b, 0⟩ = true := by
  rcases h with rfl | rfl | rfl <;> simp [insGood, insOkB, form3, fldB, inR] <;> omega
theorem good_mul (a b c : Int) (ha : 0 ≤ a ∧ a < 4) (hb : 0 ≤ b ∧ b < 4) (hc : 0 ≤ c ∧ c < 4) : insGood ⟨5, a, b, c⟩ = true := by
  simp [insGood, insOkB, form3, fldB, inR]; omega
theorem good_set (a b : Int) (ha : 0 ≤ a ∧ a < 4) (hb : 0 ≤ b ∧ b < 6) : insGood ⟨1, a, b, 0⟩ = true := by
  simp [insGood, insOkB, form3, fldB, inR]; omega
theorem good_self (a : Int) (ha : 0 ≤ a ∧ a < 4) : insGood ⟨8, a, 0, 0⟩ = true := by
  simp [insGood, insOkB, form3, fldB, inR]; omega
theorem good_move (a b : Int) (ha : 0 ≤ a ∧ a < 4) (hb : 0 ≤ b ∧ b < 4) : insGood ⟨2, a, b, 0⟩ = true := by
  simp [insGood, insOkB, form3, fldB, inR]; omega
theorem good_three (op a b c : Int) (h : op = 3 ∨ op = 4 ∨ op = 5 ∨ op = 6 ∨ op = 7 ∨ op = 9) (ha : 0 ≤ a ∧ a < 4) (hb : 0 ≤ b ∧ b < 4) (hc : 0 ≤ c ∧ c < 4) : insGood ⟨op, a, b, c⟩ = true := by
  rcases h with rfl | rfl | rfl | rfl | rfl | rfl <;> simp [insGood, insOkB, form3, fldB, inR] <;> omega
theorem l04Memory_f (s : List Int) (i h : Int) (hi : 0 ≤ i) (hs : s.length ≤ 140737488351232) : ∃ o a b c i' h', spec_l04Memory.f s i h = some (o, a, b, c, i', h') ∧ 0 ≤ i' ∧ insGood ⟨o, a, b, c⟩ = true := by
  obtain ⟨o, i1, h1, e1, c1, m1⟩ := l01PickInt_f s i h [13, 14, 15] hi hs (by decide)
  obtain ⟨a, i2, h2, e2, c2, _, m2⟩ := l01Below_f s i1 h1 4 c1 hs
  obtain ⟨b, i3, h3, e3, c3, _, m3⟩ := l01Below_f s i2 h2 4 c2 hs
  simp only [List.mem_cons, List.not_mem_nil, or_false] at m1
  refine ⟨o, a, b, 0, i3, h3, ?_, c3, good_mem o a b m1 (m2 (by omega)) (m3 (by omega))⟩
  unfold spec_l04Memory.f
  simp only [e1, e2, e3, Option.bind_some]
theorem l04Plain_f (s : List Int) (i h : Int) (hi : 0 ≤ i) (hs : s.length ≤ 140737488351232) : ∃ o a b c i' h', spec_l04Plain.f s i h = some (o, a, b, c, i', h') ∧ 0 ≤ i' ∧ insGood ⟨o, a, b, c⟩ = true := by
  obtain ⟨x, i1, h1, e1, c1, _, m1⟩ := l01Below_f s i h 9 hi hs
  obtain ⟨a, i2, h2, e2, c2, _, m2⟩ := l01Below_f s i1 h1 4 c1 hs
  have m1 := m1 (by omega)
  have m2 := m2 (by omega)
  have hw : wrap64 (1 + x) = 1 + x := wrap_small (by omega) (by omega)
  unfold spec_l04Plain.f
  simp only [e1, e2, Option.bind_some, hw]
  clear hw
  by_cases g1 : 1 + x = 1
  · obtain ⟨b, i3, h3, e3, c3, _, m3⟩ := l01Below_f s i2 h2 6 c2 hs
    refine ⟨1, a, b, 0, i3, h3, by rw [if_pos g1, e3, Option.bind_some, g1], c3, good_set a b m2 (m3 (by omega))⟩
  · rw [if_neg g1]
    by_cases g2 : 1 + x = 8
    · exact ⟨8, a, 0, 0, i2, h2, by rw [if_pos g2, g2], c2, good_self a m2⟩
    · rw [if_neg g2]
      by_cases g3 : 1 + x = 2
      · obtain ⟨b, i3, h3, e3, c3, _, m3⟩ := l01Below_f s i2 h2 4 c2 hs
        refine ⟨2, a, b, 0, i3, h3, by rw [if_pos g3, e3, Option.bind_some, g3], c3, good_move a b m2 (m3 (by omega))⟩
      · obtain ⟨b, i3, h3, e3, c3, _, m3⟩ := l01Below_f s i2 h2 4 c2 hs
        obtain ⟨c, i4, h4, e4, c4, _, m4⟩ := l01Below_f s i3 h3 4 c3 hs
        refine ⟨1 + x, a, b, c, i4, h4, by rw [if_neg g3, e3, Option.bind_some]; dsimp only; rw [e4, Option.bind_some], c4, good_three (1 + x) a b c (by omega) m2 (m3 (by omega)) (m4 (by omega))⟩
theorem small_len4 {n : Nat} (h : n ≤ 10) : n < 4398046511104 := Nat.lt_of_le_of_lt h (by decide)
theorem good_snoc {acc : List S45} {x : S45} (h : ∀ z ∈ acc, insGood z = true) (hx : insGood x = true) : ∀ z ∈ acc ++ [x], insGood z = true := by
  intro z hz
  rcases List.mem_append.1 hz with h1 | h1
  · exact h z h1
  · rw [List.mem_singleton] at h1; subst h1; exact hx
theorem l35List_ev (l : List Int) (hl : l.length ≤ 140737488351232) : ∀ d (j : Nat) (acc : List S45) (i h : Int), j + d = 10 → acc.length = j → (∀ x ∈ acc, insGood x = true) → 0 ≤ i → ∃ (T : List S45) (i' h' : Int), 0 ≤ i' ∧ T.length ≤ 10 ∧ (∀ x ∈ T, insGood x = true) ∧ Ev (fun k => spec_l35List.l0 k acc (j : Int) l i h) (T, i', h') := by
  intro d
  induction d with
  | zero =>
    intro j acc i h hj ha hx hi
    obtain ⟨v, i', h', e, hi', _, hv⟩ := l01Below_f l i h 10 hi hl
    have hv := hv (by omega)
    have c1 : ¬ (j : Int) < v := by omega
    exact ⟨acc, i', h', hi', by omega, hx, Ev.step (f := fun _ => some (acc, i', h')) (fun k => by simp only [spec_l35List.l0]; rw [e, Option.bind_some]; dsimp only; rw [if_neg c1]) (Ev.now _)⟩
  | succ d ih =>
    intro j acc i h hj ha hx hi
    obtain ⟨v, i1, h1, e, hi1, _, hv⟩ := l01Below_f l i h 10 hi hl
    have hlen : acc.length < 4398046511104 := small_len4 (by omega)
    by_cases hjv : (j : Int) < v
    · obtain ⟨q, i2, h2, e2, hi2, _, hq⟩ := l01Below_f l i1 h1 4 hi1 hl
      have a3 : j < 1000000 := by omega
      have go : ∀ (x : S45) (i3 h3 : Int), insGood x = true → 0 ≤ i3 → ∃ (T : List S45) (i' h' : Int), 0 ≤ i' ∧ T.length ≤ 10 ∧ (∀ x ∈ T, insGood x = true) ∧ Ev (fun k => spec_l35List.l0 k (acc ++ [x]) (wrap64 ((j : Int) + 1)) l i3 h3) (T, i', h') := by
        intro x i3 h3 hg hi3
        rw [wrap_nat' j a3]
        exact ih (j + 1) (acc ++ [x]) i3 h3 (by omega) (by simp; omega) (good_snoc hx hg) hi3
      by_cases g0 : q = 0
      · obtain ⟨o, a, b, c, i3, h3, e3, hi3, hg⟩ := l04Memory_f l i2 h2 hi2 hl
        obtain ⟨T, i', h', t1, t2, t3, t4⟩ := go ⟨o, a, b, c⟩ i3 h3 hg hi3
        refine ⟨T, i', h', t1, t2, t3, Ev.step (fun k => ?_) t4⟩
        simp only [spec_l35List.l0]
        rw [e, Option.bind_some]; dsimp only
        rw [if_pos hjv, e2, Option.bind_some]; dsimp only
        rw [if_pos g0, e3, Option.bind_some]; dsimp only
        rw [if_pos hlen]
      · by_cases g1 : q = 1
        · obtain ⟨a, i3, h3, e3, hi3, _, ma⟩ := l01Below_f l i2 h2 4 hi2 hl
          obtain ⟨b, i4, h4, e4, hi4, _, mb⟩ := l01Below_f l i3 h3 4 hi3 hl
          obtain ⟨c, i5, h5, e5, hi5, _, mc⟩ := l01Below_f l i4 h4 4 hi4 hl
          obtain ⟨T, i', h', t1, t2, t3, t4⟩ := go ⟨5, a, b, c⟩ i5 h5 (good_mul a b c (ma (by omega)) (mb (by omega)) (mc (by omega))) hi5
          refine ⟨T, i', h', t1, t2, t3, Ev.step (fun k => ?_) t4⟩
          simp only [spec_l35List.l0]
          rw [e, Option.bind_some]; dsimp only
          rw [if_pos hjv, e2, Option.bind_some]; dsimp only
          rw [if_neg g0, if_pos g1, e3, Option.bind_some]; dsimp only
          rw [e4, Option.bind_some]; dsimp only
          rw [e5, Option.bind_some]; dsimp only
          rw [if_pos hlen]
        · obtain ⟨o, a, b, c, i3, h3, e3, hi3, hg⟩ := l04Plain_f l i2 h2 hi2 hl
          obtain ⟨T, i', h', t1, t2, t3, t4⟩ := go ⟨o, a, b, c⟩ i3 h3 hg hi3
          refine ⟨T, i', h', t1, t2, t3, Ev.step (fun k => ?_) t4⟩
          simp only [spec_l35List.l0]
          rw [e, Option.bind_some]; dsimp only
          rw [if_pos hjv, e2, Option.bind_some]; dsimp only
          rw [if_neg g0, if_neg g1, e3, Option.bind_some]; dsimp only
          rw [if_pos hlen]
    · exact ⟨acc, i1, h1, hi1, by omega, hx, Ev.step (f := fun _ => some (acc, i1, h1)) (fun k => by simp only [spec_l35List.l0]; rw [e, Option.bind_some]; dsimp only; rw [if_neg hjv]) (Ev.now _)⟩
theorem lokB_of {T : List S45} (h : T.length ≤ 10) (hg : ∀ x ∈ T, insGood x = true) : lokB T = true := by
  unfold lokB
  rw [Bool.and_eq_true, decide_eq_true_eq, List.all_eq_true]
  exact ⟨by omega, hg⟩
theorem DrawList_ev (l : List Int) (hl : l.length ≤ 140737488351232) : ∃ T : List S45, T.length ≤ 10 ∧ lokB T = true ∧ Ev (fun k => spec_DrawList.f k l) T := by
  obtain ⟨h, hn⟩ := l01New_ev l hl
  obtain ⟨T, i', h', _, hT, hg, hr⟩ := l35List_ev l hl 10 0 [] 0 h (by omega) rfl (by simp) (by omega)
  exact ⟨T, hT, lokB_of hT hg, Ev.bind hn (Ev.bind (f := fun k (bt : List S45 × Int × Int) => some bt.1) hr (Ev.now _))⟩

theorem tmI_ge (l : List S45) (i : Nat) : (stI l i).2 ≤ tmI l i := by
  obtain ⟨h1, h2, h3⟩ := stI_ok l i
  exact (itStep_bd h1 h2 h3 _).1
theorem stI_snd (l : List S45) (i : Nat) : (stI l (i + 1)).2 = tmI l i + 1 := rfl
theorem tmI_rise (l : List S45) (i : Nat) : tmI l i < tmI l (i + 1) := by
  have := tmI_ge l (i + 1)
  rw [stI_snd] at this
  omega
end Go.Proofs.Ytopckcppmpmcnaa.Q
