/- The longest sums of latencies: what both CriticalPath functions come to. -/
import Derived.Test.YtopckcppmpmcnaaKFnExactIssueAll31
namespace Go.Proofs.Ytopckcppmpmcnaa.Q
open Go.RowKit Go.Proofs.YtopckcppmpmcnaaW.PrintWords Go.Proofs.YtopckcppmpmcnaaW.PrintLast Go.Proofs.YtopckcppmpmcnaaW.PrintMore
set_option linter.unusedVariables false
set_option linter.unusedSimpArgs false

theorem insGood_op {x : S45} (h : insGood x = true) : insOkB x.f0 x.f1 x.f2 x.f3 32 = true := by
  unfold insGood at h
  simp only [Bool.and_eq_true] at h
  exact h.1.1
/-- The registers of a valid instruction. -/
theorem uses_reg (x : S45) (h : insOkB x.f0 x.f1 x.f2 x.f3 32 = true) (y : Int) (hu : Uses x y) : 0 ≤ y ∧ y ≤ 3 := by
  obtain ⟨op, a, b, c⟩ := x
  unfold Uses regs wrReg at hu
  unfold insOkB at h
  dsimp only at h hu
  simp only [Bool.and_eq_true] at h
  obtain ⟨⟨⟨⟨h0, _⟩, h1⟩, h2⟩, h3⟩ := h
  have hb := (inR_iff _ _ _).mp h0
  have hcases : op = 0 ∨ op = 1 ∨ op = 2 ∨ op = 3 ∨ op = 4 ∨ op = 5 ∨ op = 6 ∨ op = 7 ∨ op = 8 ∨ op = 9 ∨ op = 10 ∨ op = 11 ∨ op = 12 ∨ op = 13 ∨ op = 14 ∨ op = 15 ∨ op = 16 := by omega
  rcases hcases with rfl | rfl | rfl | rfl | rfl | rfl | rfl | rfl | rfl | rfl | rfl | rfl | rfl | rfl | rfl | rfl | rfl
  all_goals
    simp [form3, fldB, regsOf, inR] at h1 h2 h3 hu
    try omega
theorem le_mx (a b B : Int) : mx a b ≤ B ↔ a ≤ B ∧ b ≤ B := by unfold mx; split <;> omega
/-- The greatest of the sums of those instructions, of the first m, that write a register which x uses; at least c. -/
def longest (x : S45) (l : List S45) (s : List Int) : Nat → Int
  | 0 => 0
  | m + 1 => if wrReg (rd_T45 l (m : Int)) ∈ usedL x then mx (longest x l s m) (rd s (m : Int)) else longest x l s m
theorem longest_le (x : S45) (l : List S45) (s : List Int) (B : Int) : ∀ n, longest x l s n ≤ B ↔ 0 ≤ B ∧ ∀ m, m < n → Uses x (wrReg (rd_T45 l (m : Int))) → rd s (m : Int) ≤ B
  | 0 => by simp [longest]
  | n + 1 => by
    have ih := longest_le x l s B n
    unfold longest
    split
    · rename_i h
      rw [mem_usedL] at h
      rw [le_mx, ih]
      constructor
      · rintro ⟨⟨h1, h2⟩, h3⟩
        refine ⟨h1, fun m hm hu => ?_⟩
        by_cases e : m = n
        · subst e; exact h3
        · exact h2 m (by omega) hu
      · rintro ⟨h1, h2⟩
        exact ⟨⟨h1, fun m hm hu => h2 m (by omega) hu⟩, h2 n (by omega) h⟩
    · rename_i h
      rw [mem_usedL] at h
      rw [ih]
      constructor
      · rintro ⟨h1, h2⟩
        refine ⟨h1, fun m hm hu => ?_⟩
        by_cases e : m = n
        · subst e; exact absurd hu h
        · exact h2 m (by omega) hu
      · rintro ⟨h1, h2⟩
        exact ⟨h1, fun m hm hu => h2 m (by omega) hu⟩

theorem eq_of_le (a b : Int) (h : ∀ B, a ≤ B ↔ b ≤ B) : a = b := by
  have h1 := (h b).mpr (Int.le_refl _)
  have h2 := (h a).mp (Int.le_refl _)
  omega
theorem longest_nonneg (x : S45) (l : List S45) (s : List Int) (n : Nat) : 0 ≤ longest x l s n := ((longest_le x l s _ n).mp (Int.le_refl _)).1
/-- The sums of the first k instructions; the greatest of them. -/
def cps (l : List S45) : Nat → List Int
  | 0 => []
  | k + 1 => cps l k ++ [longest (rd_T45 l (k : Int)) l (cps l k) k + latOf (rd_T45 l (k : Int))]
def cpm (l : List S45) : Nat → Int
  | 0 => 0
  | k + 1 => mx (cpm l k) (longest (rd_T45 l (k : Int)) l (cps l k) k + latOf (rd_T45 l (k : Int)))
theorem lat_bd (x : S45) : 1 ≤ latOf x ∧ latOf x ≤ 6 := by unfold latOf; split; (omega); (split <;> omega)
theorem cps_len (l : List S45) : ∀ k, (cps l k).length = k
  | 0 => rfl
  | k + 1 => by simp [cps, cps_len l k]
theorem rd_old (s : List Int) (v : Int) (m : Nat) (h : m < s.length) : rd (s ++ [v]) (m : Int) = rd s (m : Int) := by
  rw [rd_at _ m (by simp; omega), rd_at _ m h, List.getElem_append_left h]
theorem rd_new (s : List Int) (v : Int) : rd (s ++ [v]) (s.length : Int) = v := by
  rw [rd_at _ s.length (by simp)]; simp
theorem cps_bd (l : List S45) : ∀ k m, m < k → 0 ≤ rd (cps l k) (m : Int) ∧ rd (cps l k) (m : Int) ≤ 6 * k
  | 0, m, h => by omega
  | k + 1, m, h => by
    have hlen := cps_len l k
    have hn := longest_nonneg (rd_T45 l (k : Int)) l (cps l k) k
    have hb : longest (rd_T45 l (k : Int)) l (cps l k) k ≤ 6 * k := (longest_le _ _ _ _ _).mpr ⟨by omega, fun j hj _ => (cps_bd l k j hj).2⟩
    have hl := lat_bd (rd_T45 l (k : Int))
    unfold cps
    by_cases e : m = k
    · have hr := rd_new (cps l k) (longest (rd_T45 l (k : Int)) l (cps l k) k + latOf (rd_T45 l (k : Int)))
      rw [hlen] at hr
      rw [e, hr]; omega
    · rw [rd_old _ _ m (by omega)]
      have := cps_bd l k m (by omega)
      omega
theorem longest_bd (x : S45) (l : List S45) (k n : Nat) (h : n ≤ k) : 0 ≤ longest x l (cps l k) n ∧ longest x l (cps l k) n ≤ 6 * k :=
  ⟨longest_nonneg _ _ _ _, (longest_le _ _ _ _ _).mpr ⟨by omega, fun j hj _ => (cps_bd l k j (by omega)).2⟩⟩
theorem contains_f (u : List Int) (v : Int) (hl : u.length ≤ 1000) : ∀ k, u.length < k → slices_Contains_int_int.f k u v = some (decide (v ∈ u)) := by
  have key : ∀ d k (i : Nat), i ≤ u.length → u.length - i = d → d < k → ∃ r, slices_Index_int_int.l0 k u v (u.length : Int) i = some r ∧ decide (r ≥ 0) = decide (v ∈ u.drop i) := by
    intro d
    induction d with
    | zero =>
      intro k i hi hd hk
      obtain ⟨k, rfl⟩ : ∃ m, k = m + 1 := ⟨k - 1, by omega⟩
      refine ⟨-1, by simp only [slices_Index_int_int.l0]; rw [if_neg (by omega)], ?_⟩
      rw [List.drop_of_length_le (by omega)]; simp
    | succ d ih =>
      intro k i hi hd hk
      obtain ⟨k, rfl⟩ : ∃ m, k = m + 1 := ⟨k - 1, by omega⟩
      have hlt : i < u.length := by omega
      rw [List.drop_eq_getElem_cons hlt]
      by_cases hv : v = u[i]
      · refine ⟨i, ?_, by rw [decide_eq_true (show (i : Int) ≥ 0 by omega), decide_eq_true (by rw [hv]; exact List.mem_cons_self)]⟩
        simp only [slices_Index_int_int.l0]
        rw [if_pos (by omega), if_pos (by omega), if_pos (by omega), rd_at u i hlt, if_pos hv]
      · obtain ⟨r, h1, h2⟩ := ih k (i + 1) (by omega) (by omega) (by omega)
        refine ⟨r, ?_, by
          rw [h2]; apply decide_eq_decide.mpr; rw [List.mem_cons]
          exact ⟨.inr, fun h => h.elim (fun h => absurd h hv) id⟩⟩
        simp only [slices_Index_int_int.l0]
        rw [if_pos (by omega), if_pos (by omega), if_pos (by omega), rd_at u i hlt, if_neg hv, wrap_succ hlt (by omega)]
        exact h1
  intro k hk
  obtain ⟨r, h1, h2⟩ := key u.length k 0 (by omega) (by omega) (by omega)
  unfold slices_Contains_int_int.f slices_Index_int_int.f
  rw [show (0 : Int) = ((0 : Nat) : Int) from rfl, h1, Option.bind_some]
  simpa using h2

def critZ (l : List S45) : Int := if lokB l = true then cpm l l.length else -1
theorem lokB_len {l : List S45} (h : lokB l = true) : l.length ≤ 32 := by unfold lokB at h; simp only [Bool.and_eq_true, decide_eq_true_eq] at h; exact h.1
theorem lokB_good {l : List S45} (h : lokB l = true) (k : Nat) (hk : k < l.length) : insGood (rd_T45 l (k : Int)) = true := by
  unfold lokB at h
  simp only [Bool.and_eq_true, List.all_eq_true] at h
  rw [rdIns l k hk]
  exact h.2 _ (List.getElem_mem hk)
theorem impl_CriticalPath_ev (l : List S45) (hl : l.length ≤ 1099511627776) : Ev (fun k => impl_CriticalPath.f k l) (critZ l) := by
  obtain ⟨K0, e0⟩ := impl_ListOk_ev l hl
  dsimp only at e0
  have inner : ∀ d k (i j : Nat) (most : Int) (G : Int), l.length ≤ 32 → i < l.length → j ≤ i → i - j = d → d + 10 < k →
      (∀ k', k - (d + 1) ≤ k' → impl_CriticalPath.l0 k' l (mx most (longest (rd_T45 l (i : Int)) l (cps l i) i + latOf (rd_T45 l (i : Int)))) (cps l (i + 1)) l (l.length : Int) ((i + 1 : Nat) : Int) = some G) →
      impl_CriticalPath.l1 k l most (cps l i) i (longest (rd_T45 l (i : Int)) l (cps l i) j) l (l.length : Int) i i j (rd_T45 l (i : Int)).f0 (rd_T45 l (i : Int)).f1 (rd_T45 l (i : Int)).f2 (rd_T45 l (i : Int)).f3 = some G := by
    intro d
    induction d with
    | zero =>
      intro k i j most G hn hi hj hd hk hgo
      obtain ⟨k, rfl⟩ : ∃ m, k = m + 1 := ⟨k - 1, by omega⟩
      obtain rfl : j = i := by omega
      have hlen := cps_len l j
      have hb := longest_bd (rd_T45 l (j : Int)) l j j (Nat.le_refl _)
      have hlt := lat_bd (rd_T45 l (j : Int))
      have hw : wrap64 (longest (rd_T45 l (j : Int)) l (cps l j) j + latOf (rd_T45 l (j : Int))) = longest (rd_T45 l (j : Int)) l (cps l j) j + latOf (rd_T45 l (j : Int)) := by unfold wrap64; omega
      have hr := rd_new (cps l j) (longest (rd_T45 l (j : Int)) l (cps l j) j + latOf (rd_T45 l (j : Int)))
      rw [hlen] at hr
      have hg := hgo k (by omega)
      rw [cps] at hg
      simp only [impl_CriticalPath.l1]
      rw [if_neg (by omega), impl_lat_f, Option.bind_some, if_pos (by omega), Option.bind_some, hw, if_pos (by omega), if_pos (by simp; omega), hr, wrap_succ hi (by omega)]
      exact hg
    | succ d ih =>
      intro k i j most G hn hi hj hd hk hgo
      obtain ⟨k, rfl⟩ : ∃ m, k = m + 1 := ⟨k - 1, by omega⟩
      have hlen := cps_len l i
      have hu := usedL_len (rd_T45 l (i : Int))
      have hst : longest (rd_T45 l (i : Int)) l (cps l i) (j + 1) = if wrReg (rd_T45 l (j : Int)) ∈ usedL (rd_T45 l (i : Int)) then mx (longest (rd_T45 l (i : Int)) l (cps l i) j) (rd (cps l i) (j : Int)) else longest (rd_T45 l (i : Int)) l (cps l i) j := rfl
      have hn2 := ih k i (j + 1) most G hn hi (by omega) (by omega) (by omega) (fun k' hk' => hgo k' (by omega))
      simp only [impl_CriticalPath.l1]
      rw [if_pos (by omega), impl_usedBy_f, Option.bind_some, if_pos (by omega), if_pos (by omega), impl_wr_f, Option.bind_some, contains_f _ _ (by omega) k (by omega), Option.bind_some, wrap_succ (n := i) (by omega) (by omega)]
      by_cases h : wrReg (rd_T45 l (j : Int)) ∈ usedL (rd_T45 l (i : Int))
      · rw [if_pos h] at hst
        rw [if_pos (by simpa using h), if_pos (by omega), ← hst]
        exact hn2
      · rw [if_neg h] at hst
        rw [if_neg (by simpa using h), ← hst]
        exact hn2
  have outer : ∀ d k (i : Nat), l.length ≤ 32 → i ≤ l.length → l.length - i = d → 60 * d < k → impl_CriticalPath.l0 k l (cpm l i) (cps l i) l (l.length : Int) i = some (cpm l l.length) := by
    intro d
    induction d with
    | zero =>
      intro k i hn hi hd hk
      obtain ⟨k, rfl⟩ : ∃ m, k = m + 1 := ⟨k - 1, by omega⟩
      simp only [impl_CriticalPath.l0]
      rw [if_neg (by omega), show i = l.length from by omega]
    | succ d ih =>
      intro k i hn hi hd hk
      obtain ⟨k, rfl⟩ : ∃ m, k = m + 1 := ⟨k - 1, by omega⟩
      simp only [impl_CriticalPath.l0]
      rw [if_pos (by omega), if_pos (by omega), if_pos (by omega)]
      exact inner i k i 0 (cpm l i) _ hn (by omega) (by omega) (by omega) (by omega) (fun k' hk' => ih k' (i + 1) hn (by omega) (by omega) (by omega))
  refine Ev.of (fun k => impl_CriticalPath.mono l k) (k := K0 + 60 * l.length + 1) ?_
  unfold impl_CriticalPath.f critZ
  rw [e0 _ (by omega), Option.bind_some]
  by_cases h : lokB l = true
  · rw [if_pos h, if_pos h]
    exact outer l.length _ 0 (lokB_len h) (by omega) (by omega) (by omega)
  · rw [if_neg h, if_neg h]

/-- The greatest of the items of E at the places of u; at least c. -/
def fmax (E : List Int) (c : Int) (u : List Int) : Int := u.foldl (fun m y => mx m (rd E y)) c
theorem fmax_le (E : List Int) (B : Int) : ∀ (u : List Int) (c : Int), fmax E c u ≤ B ↔ c ≤ B ∧ ∀ y ∈ u, rd E y ≤ B
  | [], c => by simp [fmax]
  | y :: r, c => by
    have ih := fmax_le E B r (mx c (rd E y))
    unfold fmax at ih ⊢
    rw [List.foldl_cons, ih, le_mx]
    constructor
    · rintro ⟨⟨h1, h2⟩, h3⟩
      refine ⟨h1, fun z hz => ?_⟩
      rcases List.mem_cons.mp hz with rfl | hz
      · exact h2
      · exact h3 z hz
    · rintro ⟨h1, h2⟩
      exact ⟨⟨h1, h2 y (by simp)⟩, fun z hz => h2 z (by simp [hz])⟩
theorem fmax_step (E : List Int) (c : Int) (u : List Int) (j : Nat) (h : j < u.length) : fmax E c (u.take (j + 1)) = mx (fmax E c (u.take j)) (rd E u[j]) := by
  unfold fmax
  rw [List.take_add_one, List.foldl_append]
  simp [h]
/-- What the reference's table holds after k instructions. -/
structure EndsInv (l : List S45) (k : Nat) (E : List Int) : Prop where
  len : E.length = 4
  le : ∀ r : Int, 0 ≤ r → r ≤ 3 → ∀ B, rd E r ≤ B ↔ 0 ≤ B ∧ ∀ m, m < k → wrReg (rd_T45 l (m : Int)) = r → rd (cps l k) (m : Int) ≤ B
theorem endsInv_start (l : List S45) : EndsInv l 0 (List.replicate 4 0) := by
  refine ⟨by simp, fun r h0 h3 B => ?_⟩
  have : rd (List.replicate 4 0) r = 0 := by
    have hc : r = 0 ∨ r = 1 ∨ r = 2 ∨ r = 3 := by omega
    rcases hc with rfl | rfl | rfl | rfl <;> rfl
  rw [this]
  simp
theorem fmax_longest (l : List S45) (k : Nat) (E : List Int) (h : EndsInv l k E) (x : S45) (hx : insOkB x.f0 x.f1 x.f2 x.f3 32 = true) (u : List Int) (hu : ∀ y, y ∈ u ↔ Uses x y) : fmax E 0 u = longest x l (cps l k) k := by
  apply eq_of_le
  intro B
  rw [fmax_le, longest_le]
  constructor
  · rintro ⟨h1, h2⟩
    refine ⟨h1, fun m hm hum => ?_⟩
    have hr := uses_reg x hx _ hum
    exact ((h.le _ hr.1 hr.2 B).mp (h2 _ ((hu _).mpr hum))).2 m hm rfl
  · rintro ⟨h1, h2⟩
    refine ⟨h1, fun y hy => ?_⟩
    have huy := (hu y).mp hy
    have hr := uses_reg x hx _ huy
    exact (h.le y hr.1 hr.2 B).mpr ⟨h1, fun m hm e => h2 m hm (by rw [e]; exact huy)⟩
theorem rd_setI (E : List Int) (r y v : Int) (h0 : 0 ≤ r) (h1 : 0 ≤ y) (h2 : r < (E.length : Int)) : rd (E.set r.toNat v) y = if y = r then v else rd E y := by
  unfold rd
  rw [List.getD_eq_getElem?_getD, List.getD_eq_getElem?_getD, List.getElem?_set]
  by_cases e : y = r
  · subst e
    rw [if_pos rfl, if_pos rfl, if_pos (by omega)]; rfl
  · rw [if_neg (by omega), if_neg e]
theorem endsInv_step (l : List S45) (k : Nat) (E : List Int) (h : EndsInv l k E) (hx : insOkB (rd_T45 l (k : Int)).f0 (rd_T45 l (k : Int)).f1 (rd_T45 l (k : Int)).f2 (rd_T45 l (k : Int)).f3 32 = true) :
    EndsInv l (k + 1) (if wrReg (rd_T45 l (k : Int)) ≥ 0 then E.set (wrReg (rd_T45 l (k : Int))).toNat (longest (rd_T45 l (k : Int)) l (cps l k) k + latOf (rd_T45 l (k : Int))) else E) := by
  have hlen := cps_len l k
  have hnew : rd (cps l (k + 1)) (k : Int) = longest (rd_T45 l (k : Int)) l (cps l k) k + latOf (rd_T45 l (k : Int)) := by
    have hr := rd_new (cps l k) (longest (rd_T45 l (k : Int)) l (cps l k) k + latOf (rd_T45 l (k : Int)))
    rw [hlen] at hr
    exact hr
  have hold : ∀ m, m < k → rd (cps l (k + 1)) (m : Int) = rd (cps l k) (m : Int) := fun m hm => rd_old _ _ m (by omega)
  have hlb := lat_bd (rd_T45 l (k : Int))
  have hn := longest_nonneg (rd_T45 l (k : Int)) l (cps l k) k
  generalize hxx : rd_T45 l (k : Int) = x at *
  by_cases hw : wrReg x ≥ 0
  · have hreg := uses_reg x hx (wrReg x) (.inr ⟨hw, rfl⟩)
    rw [if_pos hw]
    refine ⟨by simp [h.len], fun r h0 h3 B => ?_⟩
    rw [rd_setI _ _ _ _ hw h0 (by rw [h.len]; omega)]
    by_cases e : r = wrReg x
    · rw [if_pos e]
      constructor
      · intro hb
        refine ⟨by omega, fun m hm hr => ?_⟩
        by_cases em : m = k
        · subst em; rw [hnew]; exact hb
        · rw [hold m (by omega)]
          have := ((longest_le x l (cps l k) _ k).mp (Int.le_refl _)).2 m (by omega) (by rw [hr, e]; exact .inr ⟨hw, rfl⟩)
          omega
      · rintro ⟨h1, h2⟩
        have := h2 k (by omega) (by rw [hxx, e])
        rw [hnew] at this; exact this
    · rw [if_neg e, h.le r h0 h3 B]
      constructor
      · rintro ⟨h1, h2⟩
        refine ⟨h1, fun m hm hr => ?_⟩
        by_cases em : m = k
        · subst em; rw [hxx] at hr; exact absurd hr.symm e
        · rw [hold m (by omega)]; exact h2 m (by omega) hr
      · rintro ⟨h1, h2⟩
        refine ⟨h1, fun m hm hr => ?_⟩
        rw [← hold m hm]; exact h2 m (by omega) hr
  · rw [if_neg hw]
    refine ⟨h.len, fun r h0 h3 B => ?_⟩
    rw [h.le r h0 h3 B]
    constructor
    · rintro ⟨h1, h2⟩
      refine ⟨h1, fun m hm hr => ?_⟩
      by_cases em : m = k
      · subst em; rw [hxx] at hr; omega
      · rw [hold m (by omega)]; exact h2 m (by omega) hr
    · rintro ⟨h1, h2⟩
      refine ⟨h1, fun m hm hr => ?_⟩
      rw [← hold m hm]; exact h2 m (by omega) hr

theorem spec_CriticalPath_ev (l : List S45) (hl : l.length ≤ 1099511627776) : Ev (fun k => spec_CriticalPath.f k l) (critZ l) := by
  obtain ⟨K0, e0⟩ := spec_ListOk_ev l hl
  dsimp only at e0
  have outer : lokB l = true → ∀ d (i : Nat) (E : List Int), i ≤ l.length → l.length - i = d → EndsInv l i E → ∃ K, ∀ k, K ≤ k → spec_CriticalPath.l0 k l E (cpm l i) i = some (cpm l l.length) := by
    intro hok d
    have hn := lokB_len hok
    induction d with
    | zero =>
      intro i E hi hd hE
      refine ⟨1, fun k hk => ?_⟩
      obtain ⟨k, rfl⟩ : ∃ m, k = m + 1 := ⟨k - 1, by omega⟩
      simp only [spec_CriticalPath.l0]
      rw [if_neg (by omega), show i = l.length from by omega]
    | succ d ih =>
      intro i E hi hd hE
      have hlt : i < l.length := by omega
      have hgood := insGood_op (lokB_good hok i hlt)
      obtain ⟨u, ⟨K1, e1⟩, hu, hul⟩ := spec_uses_ev (rd_T45 l (i : Int))
      dsimp only at e1
      have hmax := fmax_longest l i E hE _ hgood u hu
      have hstep := endsInv_step l i E hE hgood
      obtain ⟨K2, e2⟩ := ih (i + 1) _ (by omega) (by omega) hstep
      have hb := longest_bd (rd_T45 l (i : Int)) l i i (Nat.le_refl _)
      have hlb := lat_bd (rd_T45 l (i : Int))
      have hw : wrap64 (longest (rd_T45 l (i : Int)) l (cps l i) i + latOf (rd_T45 l (i : Int))) = longest (rd_T45 l (i : Int)) l (cps l i) i + latOf (rd_T45 l (i : Int)) := by unfold wrap64; omega
      have inner : ∀ d' (j : Nat), j ≤ u.length → u.length - j = d' → ∀ k, K2 + d' + 1 ≤ k → spec_CriticalPath.l1 k l E (cpm l i) i (fmax E 0 (u.take j)) u j = some (cpm l l.length) := by
        intro d'
        induction d' with
        | zero =>
          intro j hj hd' k hk
          obtain ⟨k, rfl⟩ : ∃ m, k = m + 1 := ⟨k - 1, by omega⟩
          simp only [spec_CriticalPath.l1]
          rw [if_neg (by omega), if_pos (by omega), if_pos (by omega), spec_lat_f, Option.bind_some, spec_wr_f, Option.bind_some, List.take_of_length_le (by omega), hmax, hw, wrap_succ hlt (by omega)]
          have h2 := e2 k (by omega)
          rw [cpm] at h2
          by_cases hwr : wrReg (rd_T45 l (i : Int)) ≥ 0
          · have hr := uses_reg _ hgood _ (.inr ⟨hwr, rfl⟩)
            rw [if_pos hwr] at h2 ⊢
            rw [Option.bind_some, if_pos (by omega), if_pos (by rw [hE.len]; omega)]
            exact h2
          · rw [if_neg hwr] at h2 ⊢
            exact h2
        | succ d' ih' =>
          intro j hj hd' k hk
          obtain ⟨k, rfl⟩ : ∃ m, k = m + 1 := ⟨k - 1, by omega⟩
          have hjl : j < u.length := by omega
          have hr := uses_reg _ hgood _ ((hu _).mp (List.getElem_mem hjl))
          simp only [spec_CriticalPath.l1]
          rw [if_pos (by omega), if_pos (by omega), rd_at u j hjl, if_pos (by omega), if_pos (by rw [hE.len]; omega), ← fmax_step E 0 u j hjl, wrap_succ hjl (by omega)]
          exact ih' (j + 1) (by omega) (by omega) k (by omega)
      refine ⟨K1 + K2 + u.length + 3, fun k hk => ?_⟩
      obtain ⟨k, rfl⟩ : ∃ m, k = m + 1 := ⟨k - 1, by omega⟩
      simp only [spec_CriticalPath.l0]
      rw [if_pos (by omega), if_pos (by omega), e1 k (by omega), Option.bind_some]
      exact inner u.length 0 (by omega) (by omega) k (by omega)
  by_cases h : lokB l = true
  · obtain ⟨K, e⟩ := outer h l.length 0 (List.replicate 4 0) (by omega) (by omega) (endsInv_start l)
    refine Ev.of (fun k => spec_CriticalPath.mono l k) (k := K0 + K) ?_
    unfold spec_CriticalPath.f critZ
    rw [e0 _ (by omega), Option.bind_some, if_pos h, if_pos h, if_pos (by omega)]
    exact e _ (by omega)
  · refine Ev.of (fun k => spec_CriticalPath.mono l k) (k := K0) ?_
    unfold spec_CriticalPath.f critZ
    rw [e0 _ (by omega), Option.bind_some, if_neg h, if_neg h]

end Go.Proofs.Ytopckcppmpmcnaa.Q
