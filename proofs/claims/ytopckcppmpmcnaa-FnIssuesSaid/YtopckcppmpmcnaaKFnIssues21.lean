/- When instructions begin: what both IssueTimes functions come to. -/
import Derived.Test.YtopckcppmpmcnaaKFnIssues20
namespace Go.Proofs.Ytopckcppmpmcnaa.Q
open Go.RowKit Go.Proofs.YtopckcppmpmcnaaW.PrintWords Go.Proofs.YtopckcppmpmcnaaW.PrintLast Go.Proofs.YtopckcppmpmcnaaW.PrintMore
set_option linter.unusedVariables false
set_option linter.unusedSimpArgs false

/-- The cycle in which an instruction begins; the board behind it; the cycles of a list. -/
def itStep (b : List Int) (c : Int) (x : S45) : Int := mx c (fmax b 0 (usedL x))
def itBoard (b : List Int) (x : S45) (t : Int) : List Int := if wrReg x ≥ 0 then b.set (wrReg x).toNat (t + latOf x) else b
def its : List S45 → List Int → Int → List Int
  | [], _, _ => []
  | x :: l, b, c => itStep b c x :: its l (itBoard b x (itStep b c x)) (itStep b c x + 1)
def b0 : List Int := [0, 0, 0, 0]
def itsZ (l : List S45) : List Int := if lokB l = true then its l b0 0 else []
theorem its_len : ∀ (l : List S45) (b : List Int) (c : Int), (its l b c).length = l.length
  | [], _, _ => rfl
  | x :: l, b, c => by simp only [its, List.length_cons]; rw [its_len]
theorem readyZ_fmax (b u : List Int) : readyZ b 0 u = fmax b 0 u := by
  unfold readyZ fmax
  have e : (fun (c x : Int) => mx c (rd b (((0 : Nat) : Int) + x))) = fun c x => mx c (rd b x) := by
    funext c x
    rw [show ((0 : Nat) : Int) + x = x from by omega]
  rw [e]
/-- What the numbers of a board are bounded by. -/
structure BoardOk (b : List Int) (M : Int) : Prop where
  len : b.length = 4
  bd : ∀ y ∈ b, 0 ≤ y ∧ y ≤ M
theorem BoardOk.rd {b : List Int} {M : Int} (h : BoardOk b M) (hM : 0 ≤ M) (i : Int) : 0 ≤ rd b i ∧ rd b i ≤ M := by
  unfold Go.Proofs.YtopckcppmpmcnaaW.PrintWords.rd
  rw [List.getD_eq_getElem?_getD]
  cases hq : b[i.toNat]? with
  | none => simpa using hM
  | some v => simpa using h.bd v (List.mem_of_getElem? hq)
theorem itStep_bd {b : List Int} {M c : Int} (h : BoardOk b M) (hc : 0 ≤ c) (hcM : c ≤ M) (x : S45) : c ≤ itStep b c x ∧ itStep b c x ≤ M := by
  constructor
  · exact ((le_mx _ _ _).1 (Int.le_refl (mx c (fmax b 0 (usedL x))))).1
  · unfold itStep
    rw [le_mx, fmax_le]
    exact ⟨hcM, by omega, fun y _ => (h.rd (by omega) y).2⟩
theorem itBoard_ok {b : List Int} {M t : Int} (h : BoardOk b M) (h0 : 0 ≤ t) (ht : t ≤ M) (x : S45) : BoardOk (itBoard b x t) (M + 6) := by
  have hl := lat_bd x
  unfold itBoard
  split
  · refine ⟨by simpa using h.len, fun y hy => ?_⟩
    rcases List.mem_or_eq_of_mem_set hy with h1 | h1
    · have := h.bd y h1; omega
    · omega
  · exact ⟨h.len, fun y hy => by have := h.bd y hy; omega⟩
theorem b0_ok : BoardOk b0 0 := ⟨rfl, fun y hy => by simp [b0] at hy; omega⟩
theorem uses_in {x : S45} (h : insGood x = true) : (usedL x).all (inR 0 3) = true := by
  rw [List.all_eq_true]
  intro y hy
  rw [mem_usedL] at hy
  exact (inR_iff _ _ _).2 (uses_reg x (insGood_op h) y hy)
theorem wr_lt {x : S45} (h : insGood x = true) (h0 : wrReg x ≥ 0) : wrReg x < 4 := by
  have := uses_reg x (insGood_op h) (wrReg x) (.inr ⟨by omega, rfl⟩)
  omega
theorem ready_f (b : List Int) (x : S45) (h : insGood x = true) : board_ready.f b 0 x.f0 x.f1 x.f2 x.f3 = some (fmax b 0 (usedL x)) := by
  unfold board_ready.f
  rw [impl_usedBy_f, Option.bind_some, if_pos (uses_in h), readyZ_fmax]
theorem issue_f (b : List Int) (x : S45) (t : Int) (h : insGood x = true) (h0 : 0 ≤ t) (h1 : t ≤ 1000000) : board_issue.f b 0 x.f0 x.f1 x.f2 x.f3 t = some (itBoard b x t) := by
  have hl := lat_bd x
  unfold board_issue.f itBoard
  rw [impl_wr_f, Option.bind_some]
  by_cases hw : wrReg x ≥ 0
  · have e : wrap64 (t + latOf x) = t + latOf x := by unfold wrap64; omega
    rw [if_pos hw, if_pos hw, if_pos (wr_lt h hw), impl_lat_f, Option.bind_some, e, Nat.zero_add]
  · rw [if_neg hw, if_neg hw]
theorem drop_at (l : List S45) (i : Nat) (h : i < l.length) : l.drop i = rd_T45 l (i : Int) :: l.drop (i + 1) := by
  rw [rdIns l i h]; exact List.drop_eq_getElem_cons h
theorem wrap_nat' (j : Nat) (h : j < 1000000) : wrap64 ((j : Int) + 1) = ((j + 1 : Nat) : Int) := by unfold wrap64; omega
theorem small32 {n : Nat} (h : n ≤ 32) : n < 17592186044416 := Nat.lt_of_le_of_lt h (by decide)
theorem wrap_small {x : Int} (h0 : 0 ≤ x) (h1 : x ≤ 1000000) : wrap64 x = x := by unfold wrap64; omega
theorem impl_IssueTimes_ev (l : List S45) (hl : l.length ≤ 1099511627776) : Ev (fun k => impl_IssueTimes.f k l) (itsZ l) := by
  have e0 := impl_ListOk_ev l hl
  by_cases hok : lokB l = true
  · have hn := lokB_len hok
    have key : ∀ d (i : Nat) (b : List Int) (c : Int) (o : List Int), i ≤ l.length → l.length - i = d → o.length = i → BoardOk b (7 * i) → 0 ≤ c → c ≤ 7 * i → Ev (fun k => impl_IssueTimes.l0 k l b c o (i : Int)) (o ++ its (l.drop i) b c) := by
      intro d
      induction d with
      | zero =>
        intro i b c o hi hd ho hb hc0 hc1
        rw [List.drop_of_length_le (by omega)]
        refine Ev.step (f := fun _ => some o) (fun k => ?_) (by simp only [its, List.append_nil]; exact Ev.now _)
        simp only [impl_IssueTimes.l0]
        rw [if_neg (by omega)]
      | succ d ih =>
        intro i b c o hi hd ho hb hc0 hc1
        have hlt : i < l.length := by omega
        have hg := lokB_good hok i hlt
        rw [drop_at l i hlt]
        simp only [its]
        have hs := itStep_bd hb hc0 hc1 (rd_T45 l (i : Int))
        have hb2 := itBoard_ok hb (by omega) hs.2 (rd_T45 l (i : Int))
        have ht : mx c (fmax b 0 (usedL (rd_T45 l (i : Int)))) = itStep b c (rd_T45 l (i : Int)) := rfl
        generalize itStep b c (rd_T45 l (i : Int)) = t at *
        have hih := ih (i + 1) (itBoard b (rd_T45 l (i : Int)) t) (t + 1) (o ++ [t]) (by omega) (by omega) (by simp; omega) ⟨hb2.len, fun y hy => by have := hb2.bd y hy; omega⟩ (by omega) (by omega)
        have c1 : (i : Int) < (l.length : Int) := by omega
        have c2 : (0 : Int) ≤ (i : Int) := by omega
        have c3 : o.length < 17592186044416 := small32 (by omega)
        have c4 := ready_f b _ hg
        have c5 := issue_f b _ t hg (by omega) (by omega)
        have a1 : 0 ≤ t + 1 := by omega
        have a2 : t + 1 ≤ 1000000 := by omega
        have a3 : i < 1000000 := by omega
        have e1 := wrap_small a1 a2
        have e2 := wrap_nat' i a3
        refine Ev.step (f := fun k => impl_IssueTimes.l0 k l (itBoard b (rd_T45 l (i : Int)) t) (t + 1) (o ++ [t]) ((i + 1 : Nat) : Int)) (fun k => ?_) (by rw [List.append_assoc, List.singleton_append] at hih; exact hih)
        simp only [impl_IssueTimes.l0]
        rw [if_pos c1, if_pos c2, c4, Option.bind_some, ht, c5, Option.bind_some, if_pos c3, e1, e2]
    have h0 := key l.length 0 b0 0 [] (by omega) (by omega) rfl b0_ok (by omega) (by omega)
    unfold itsZ
    rw [if_pos hok]
    rw [hok] at e0
    exact Ev.bind (f := fun k t => if t = true then impl_IssueTimes.l0 k l [0, 0, 0, 0] 0 [] 0 else some []) e0 (Ev.congr (fun k => by rw [if_pos rfl]; rfl) h0)
  · have hf : lokB l = false := by simpa using hok
    unfold itsZ
    rw [if_neg hok]
    rw [hf] at e0
    exact Ev.bind (f := fun k t => if t = true then impl_IssueTimes.l0 k l [0, 0, 0, 0] 0 [] 0 else some []) e0 (by simpa using Ev.now _)
end Go.Proofs.Ytopckcppmpmcnaa.Q
