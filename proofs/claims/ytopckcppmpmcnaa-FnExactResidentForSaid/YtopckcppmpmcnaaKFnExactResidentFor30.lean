/- The registers that an instruction reads or changes: the program's list and the reference's hold the same ones. -/
import Derived.Test.YtopckcppmpmcnaaKFnExactResidentFor29
namespace Go.Proofs.Ytopckcppmpmcnaa.Q
open Go.RowKit Go.Proofs.YtopckcppmpmcnaaW.PrintWords Go.Proofs.YtopckcppmpmcnaaW.PrintLast Go.Proofs.YtopckcppmpmcnaaW.PrintMore
set_option linter.unusedVariables false
set_option linter.unusedSimpArgs false

theorem mem_compactUpTo (d : Array Int) (y : Int) : ∀ m, y ∈ Lib.compactUpTo d m ↔ ∃ j, j < m ∧ d[j]! = y
  | 0 => by simp [Lib.compactUpTo]
  | m + 1 => by
    rw [Lib.compactUpTo_succ, List.mem_append, mem_compactUpTo d y m]
    cases hk : Lib.keeps d m with
    | true =>
      simp only [if_true, List.mem_singleton]
      constructor
      · rintro (⟨j, hj, h⟩ | h)
        · exact ⟨j, by omega, h⟩
        · exact ⟨m, by omega, h.symm⟩
      · rintro ⟨j, hj, h⟩
        by_cases e : j = m
        · subst e; exact .inr h.symm
        · exact .inl ⟨j, by omega, h⟩
    | false =>
      have h2 : 0 < m ∧ d[m]! = d[m - 1]! := by
        refine ⟨?_, ?_⟩
        · rcases Nat.eq_zero_or_pos m with h | h
          · subst h; rw [Lib.keeps_lt_one d 0 (by omega)] at hk; cases hk
          · exact h
        · by_cases e : d[m]! = d[m - 1]!
          · exact e
          · rw [Lib.keeps_pos e] at hk; cases hk
      simp only [Bool.false_eq_true, if_false, List.not_mem_nil, or_false]
      constructor
      · rintro ⟨j, hj, h⟩; exact ⟨j, by omega, h⟩
      · rintro ⟨j, hj, h⟩
        by_cases e : j = m
        · subst e; exact ⟨j - 1, by omega, by rw [← h2.2]; exact h⟩
        · exact ⟨j, by omega, h⟩
theorem mem_compact (l : List Int) (y : Int) : y ∈ Lib.compact l ↔ y ∈ l := by
  unfold Lib.compact
  rw [mem_compactUpTo]
  constructor
  · rintro ⟨j, hj, rfl⟩
    have : l.toArray[j]! = l[j] := by simp [hj]
    rw [this]; exact List.getElem_mem hj
  · intro h
    obtain ⟨j, hj, rfl⟩ := List.getElem_of_mem h
    exact ⟨j, hj, by simp [hj]⟩
theorem compact_len (l : List Int) : (Lib.compact l).length ≤ l.length := by
  unfold Lib.compact Lib.compactUpTo
  rw [List.length_map]
  exact Nat.le_trans (List.length_filter_le _ _) (by simp)
theorem mem_upS (l : List Int) (y : Int) : y ∈ upS l ↔ y ∈ l := List.mem_mergeSort
def wrReg (x : S45) : Int := if inR 1 9 x.f0 = true then x.f1 else if x.f0 = 13 then x.f1 else -1
def latOf (x : S45) : Int := if x.f0 = 5 then 4 else if x.f0 = 13 then 6 else 1
theorem impl_wr_f (x : S45) : impl_WritesReg.f x.f0 x.f1 x.f2 x.f3 = some (wrReg x) := by
  unfold impl_WritesReg.f wrReg
  rw [within_f, Option.bind_some]
  split
  · rfl
  · split <;> rfl
theorem spec_wr_f (x : S45) : spec_WritesReg.f x.f0 x.f1 x.f2 x.f3 = some (wrReg x) := by
  unfold spec_WritesReg.f wrReg
  rw [l01In_f, Option.bind_some]
  split
  · rfl
  · split <;> rfl
theorem impl_lat_f (x : S45) : impl_LatencyOf.f x.f0 x.f1 x.f2 x.f3 = some (latOf x) := by
  unfold impl_LatencyOf.f latOf
  split
  · rfl
  · split <;> rfl
theorem spec_lat_f (x : S45) : spec_LatencyOf.f x.f0 x.f1 x.f2 x.f3 = some (latOf x) := by
  unfold spec_LatencyOf.f latOf
  split
  · rfl
  · split <;> rfl
def regs (x : S45) : List Int := regsOf x.f0 x.f1 x.f2 x.f3
theorem regs_len (x : S45) : (regs x).length ≤ 3 := by
  unfold regs regsOf
  repeat' split
  all_goals simp
def Uses (x : S45) (y : Int) : Prop := y ∈ regs x ∨ (0 ≤ wrReg x ∧ y = wrReg x)
/-- The program's list. -/
def usedL (x : S45) : List Int := if wrReg x ≥ 0 then Lib.compact (upS (regs x)) ++ [wrReg x] else Lib.compact (upS (regs x))
theorem mem_usedL (x : S45) (y : Int) : y ∈ usedL x ↔ Uses x y := by
  unfold usedL Uses
  split
  · rename_i h
    rw [List.mem_append, mem_compact, mem_upS, List.mem_singleton]
    constructor
    · rintro (h1 | h1)
      · exact .inl h1
      · exact .inr ⟨h, h1⟩
    · rintro (h1 | h1)
      · exact .inl h1
      · exact .inr h1.2
  · rename_i h
    rw [mem_compact, mem_upS]
    constructor
    · exact .inl
    · rintro (h1 | h1)
      · exact h1
      · omega
theorem impl_usedBy_f (x : S45) : impl_usedBy.f x.f0 x.f1 x.f2 x.f3 = some (usedL x) := by
  have h1 := compact_len (upS (regs x))
  rw [upS_len] at h1
  have h2 := regs_len x
  unfold impl_usedBy.f impl_ReadsRegs.f usedL
  rw [Option.bind_some, impl_wr_f, Option.bind_some]
  change (if wrReg x ≥ 0 then (if (Lib.compact (upS (regs x))).length < 17592186044416 then _ else _) else _) = _
  split
  · rw [if_pos (by omega)]; rfl
  · rfl
/-- Inserting one after the other. -/
theorem reads_loop (xs : List Int) (hx : xs.length ≤ 1000) : ∀ d (i : Nat) (acc : List Int), i ≤ xs.length → xs.length - i = d → Rising acc → (∀ y, y ∈ acc ↔ y ∈ xs.take i) → acc.length ≤ i →
    ∃ r K, (∀ k, K ≤ k → spec_ReadsRegs.l0 k xs acc i = some r) ∧ Rising r ∧ (∀ y, y ∈ r ↔ y ∈ xs) ∧ r.length ≤ xs.length := by
  intro d
  induction d with
  | zero =>
    intro i acc hi hd hs hm hl
    refine ⟨acc, 1, fun k hk => ?_, hs, fun y => by rw [hm, List.take_of_length_le (by omega)], by omega⟩
    obtain ⟨k, rfl⟩ : ∃ m, k = m + 1 := ⟨k - 1, by omega⟩
    simp only [spec_ReadsRegs.l0]
    rw [if_neg (by omega)]
  | succ d ih =>
    intro i acc hi hd hs hm hl
    have hlt : i < xs.length := by omega
    obtain ⟨r1, ⟨K1, e1⟩, h1, h2, h3⟩ := put_ev acc xs[i] hs (by omega)
    dsimp only at e1
    obtain ⟨r, K, e, g1, g2, g3⟩ := ih (i + 1) r1 (by omega) (by omega) h1 (fun y => by
      rw [h2, hm, List.take_add_one]
      simp only [List.getElem?_eq_getElem hlt, Option.toList_some, List.mem_append, List.mem_singleton]) (by rw [h3]; split <;> omega)
    refine ⟨r, K + K1 + 1, fun k hk => ?_, g1, g2, g3⟩
    obtain ⟨k, rfl⟩ : ∃ m, k = m + 1 := ⟨k - 1, by omega⟩
    simp only [spec_ReadsRegs.l0]
    rw [if_pos (by omega), if_pos (by omega), rd_at xs i hlt, e1 k (by omega), Option.bind_some, wrap_succ hlt (by omega)]
    exact e k (by omega)

theorem spec_reads_ev (x : S45) : ∃ r, Ev (fun k => spec_ReadsRegs.f k x.f0 x.f1 x.f2 x.f3) r ∧ Rising r ∧ (∀ y, y ∈ r ↔ y ∈ regs x) ∧ r.length ≤ 3 := by
  have hl := regs_len x
  obtain ⟨r, K, e, g1, g2, g3⟩ := reads_loop (regs x) (by omega) (regs x).length 0 [] (by omega) (by omega) List.Pairwise.nil (by simp) (by simp)
  refine ⟨r, Ev.of (fun k => spec_ReadsRegs.mono x.f0 x.f1 x.f2 x.f3 k) (k := K + 6) ?_, g1, g2, by omega⟩
  have go : ∀ L, regs x = L → ∀ k, K ≤ k → spec_ReadsRegs.l0 k L [] 0 = some r := by
    intro L h k hk
    have := e k hk
    rw [h] at this
    simpa using this
  unfold spec_ReadsRegs.f
  rw [Option.bind_some]
  by_cases h2 : x.f0 = 2
  · have g := go [x.f2] (regs_2 (by simp [h2]))
    rw [if_pos h2]
    simp only [spec_ReadsRegs.j0, spec_ReadsRegs.j2, h2, beq_self_eq_true, if_true]
    exact g _ (by omega)
  rw [if_neg h2]
  by_cases h13 : x.f0 = 13
  · have g := go [x.f2] (regs_13 (by simp [h13]))
    simp only [spec_ReadsRegs.j0, spec_ReadsRegs.j2, h13, beq_self_eq_true, if_true]
    exact g _ (by omega)
  have b13 : (x.f0 == 13) = false := by simpa using h13
  by_cases h3 : x.f0 = 3
  · have g := go [x.f2, x.f3] (regs_3 (by simp [h3]))
    simp [spec_ReadsRegs.j0, spec_ReadsRegs.j1, spec_ReadsRegs.j2, h3, g]
  by_cases h4 : x.f0 = 4
  · have g := go [x.f2, x.f3] (regs_4 (by simp [h4]))
    simp [spec_ReadsRegs.j0, spec_ReadsRegs.j1, spec_ReadsRegs.j2, h4, g]
  by_cases h5 : x.f0 = 5
  · have g := go [x.f2, x.f3] (regs_5 (by simp [h5]))
    simp [spec_ReadsRegs.j0, spec_ReadsRegs.j1, spec_ReadsRegs.j2, h5, g]
  by_cases h6 : x.f0 = 6
  · have g := go [x.f2, x.f3] (regs_6 (by simp [h6]))
    simp [spec_ReadsRegs.j0, spec_ReadsRegs.j1, spec_ReadsRegs.j2, h6, g]
  by_cases h7 : x.f0 = 7
  · have g := go [x.f2, x.f3] (regs_7 (by simp [h7]))
    simp [spec_ReadsRegs.j0, spec_ReadsRegs.j1, spec_ReadsRegs.j2, h7, g]
  by_cases h9 : x.f0 = 9
  · have g := go [x.f1, x.f2, x.f3] (regs_9 (by simp [h9]))
    simp [spec_ReadsRegs.j0, spec_ReadsRegs.j1, spec_ReadsRegs.j2, h9, g]
  by_cases h10 : x.f0 = 10
  · have g := go [x.f1] (regs_10 (by simp [h10]))
    simp [spec_ReadsRegs.j0, spec_ReadsRegs.j1, spec_ReadsRegs.j2, h10, g]
  by_cases h14 : x.f0 = 14
  · have g := go [x.f1, x.f2] (regs_14 (by simp [h14]))
    simp [spec_ReadsRegs.j0, spec_ReadsRegs.j1, spec_ReadsRegs.j2, h14, g]
  by_cases h15 : x.f0 = 15
  · have g := go [x.f1, x.f2] (regs_15 (by simp [h15]))
    simp [spec_ReadsRegs.j0, spec_ReadsRegs.j1, spec_ReadsRegs.j2, h15, g]
  have g := go [] (regs_none (by simpa using h2) (by simpa using h13) (by simpa using h3) (by simpa using h4) (by simpa using h5) (by simpa using h6) (by simpa using h7) (by simpa using h9) (by simpa using h10) (by simpa using h14) (by simpa using h15))
  simp [spec_ReadsRegs.j0, spec_ReadsRegs.j1, spec_ReadsRegs.j2, h13, h3, h4, h5, h6, h7, h9, h10, h14, h15, g]
/-- The reference's list: rising, the same members. -/
theorem spec_uses_ev (x : S45) : ∃ u, Ev (fun k => spec_l35Uses.f k x.f0 x.f1 x.f2 x.f3) u ∧ (∀ y, y ∈ u ↔ Uses x y) ∧ u.length ≤ 4 := by
  obtain ⟨r, ⟨K1, e1⟩, g1, g2, g3⟩ := spec_reads_ev x
  obtain ⟨q, ⟨K2, e2⟩, q1, q2, q3⟩ := put_ev r (wrReg x) g1 (by omega)
  dsimp only at e1 e2
  by_cases h : wrReg x ≥ 0
  · refine ⟨q, Ev.of (fun k => spec_l35Uses.mono x.f0 x.f1 x.f2 x.f3 k) (k := K1 + K2) ?_, fun y => ?_, by rw [q3]; split <;> omega⟩
    · unfold spec_l35Uses.f
      rw [e1 _ (by omega), Option.bind_some, spec_wr_f, Option.bind_some, if_pos h, Option.bind_some, e2 _ (by omega), Option.bind_some]
    · rw [q2, g2]
      unfold Uses
      constructor
      · rintro (h1 | h1)
        · exact .inl h1
        · exact .inr ⟨h, h1⟩
      · rintro (h1 | h1)
        · exact .inl h1
        · exact .inr h1.2
  · refine ⟨r, Ev.of (fun k => spec_l35Uses.mono x.f0 x.f1 x.f2 x.f3 k) (k := K1 + K2) ?_, fun y => ?_, by omega⟩
    · unfold spec_l35Uses.f
      rw [e1 _ (by omega), Option.bind_some, spec_wr_f, Option.bind_some, if_neg h]
    · rw [g2]
      unfold Uses
      constructor
      · exact .inl
      · rintro (h1 | h1)
        · exact h1
        · omega

end Go.Proofs.Ytopckcppmpmcnaa.Q
