/- Blocks on cores: the loads of the assignment, the least span, and how far apart they are. -/
import Derived.Test.YtopckcppmpmcnaaKFnLaunches23
namespace Go.Proofs.Ytopckcppmpmcnaa.Q
open Go.RowKit Go.Proofs.YtopckcppmpmcnaaW.PrintWords Go.Proofs.YtopckcppmpmcnaaW.PrintLast Go.Proofs.YtopckcppmpmcnaaW.PrintMore
set_option linter.unusedVariables false
set_option linter.unusedSimpArgs false

def tot : List Int → Int
  | [] => 0
  | x :: l => x + tot l
theorem tot_append (a b : List Int) : tot (a ++ b) = tot a + tot b := by
  induction a with
  | nil => simp [tot]
  | cons x a ih => simp only [List.cons_append, tot, ih]; omega
theorem tot_set : ∀ (s : List Int) (i : Nat) (v : Int), i < s.length → tot (s.set i v) = tot s - rd s (i : Int) + v
  | [], i, v, h => by simp at h
  | x :: s, 0, v, h => by simp [tot, rd]; omega
  | x :: s, i + 1, v, h => by
    have ih := tot_set s i v (by simpa using h)
    have e : rd (x :: s) ((i + 1 : Nat) : Int) = rd s (i : Int) := by simp [rd]
    simp only [List.set_cons_succ, tot, ih, e]; omega
theorem tot_ge (m : Int) : ∀ (s : List Int), (∀ x ∈ s, m ≤ x) → s.length * m ≤ tot s
  | [], _ => by simp [tot]
  | x :: s, h => by
    have ih := tot_ge m s (fun y hy => h y (by simp [hy]))
    have hx := h x (by simp)
    simp only [List.length_cons, tot]
    have : ((s.length + 1 : Nat) : Int) * m = (s.length : Int) * m + m := by rw [Int.natCast_add, Int.add_mul]; simp
    rw [this]; omega
theorem tot_le (m : Int) : ∀ (s : List Int), (∀ x ∈ s, x ≤ m) → tot s ≤ s.length * m
  | [], _ => by simp [tot]
  | x :: s, h => by
    have ih := tot_le m s (fun y hy => h y (by simp [hy]))
    have hx := h x (by simp)
    simp only [List.length_cons, tot]
    have : ((s.length + 1 : Nat) : Int) * m = (s.length : Int) * m + m := by rw [Int.natCast_add, Int.add_mul]; simp
    rw [this]; omega
theorem tot_perm {a b : List Int} (h : a.Perm b) : tot a = tot b := by
  induction h with
  | nil => rfl
  | cons x _ ih => simp only [tot, ih]
  | swap x y l => simp only [tot]; omega
  | trans _ _ h1 h2 => exact h1.trans h2
theorem tot_zeros (n : Nat) : tot (List.replicate n 0) = 0 := by
  induction n with
  | zero => rfl
  | succ n ih => simp [List.replicate_succ, tot, ih]

/-- The cores that are picked; the loads in the end. -/
def picks : List Int → List Int → List Int
  | [], _ => []
  | t :: ts, s => ((am s (s.length - 1) : Nat) : Int) :: picks ts (s.set (am s (s.length - 1)) (wrap64 (rd s ((am s (s.length - 1) : Nat) : Int) + t)))
def loads : List Int → List Int → List Int
  | [], s => s
  | t :: ts, s => loads ts (s.set (am s (s.length - 1)) (wrap64 (rd s ((am s (s.length - 1) : Nat) : Int) + t)))
theorem asg_picks : ∀ (l s o : List Int), asg l s o = o ++ picks l s
  | [], s, o => by simp [asg, picks]
  | t :: ts, s, o => by simp only [asg, picks]; rw [asg_picks]; simp
theorem picks_len : ∀ (l s : List Int), (picks l s).length = l.length
  | [], s => rfl
  | t :: ts, s => by simp only [picks, List.length_cons]; rw [picks_len]
theorem picks_in (c : Nat) (hc : 0 < c) : ∀ (l s : List Int), s.length = c → ∀ x ∈ picks l s, 0 ≤ x ∧ x < (c : Int)
  | [], s, _ => by simp [picks]
  | t :: ts, s, hs => by
    intro x hx
    rcases List.mem_cons.1 hx with h | h
    · have := am_le s (s.length - 1)
      omega
    · exact picks_in c hc ts _ (by simpa using hs) x h
theorem mem_rd {s : List Int} {x : Int} (h : x ∈ s) : ∃ i : Nat, i < s.length ∧ rd s (i : Int) = x := by
  obtain ⟨i, hi, rfl⟩ := List.getElem_of_mem h
  exact ⟨i, hi, by simp [rd, List.getD_eq_getElem?_getD, hi]⟩
theorem rd_set (s : List Int) (i j : Nat) (v : Int) (hi : i < s.length) : rd (s.set i v) (j : Int) = if j = i then v else rd s (j : Int) := by
  unfold rd
  simp only [Int.toNat_natCast, List.getD_eq_getElem?_getD, List.getElem?_set]
  by_cases h : i = j
  · subst h; simp [hi]
  · simp [h, Ne.symm h]
theorem loads_facts (c : Nat) (hc : 0 < c) (L M : Int) (hL : 0 ≤ L) (hL2 : L ≤ 100000000) (hM : 0 ≤ M) (hM2 : M ≤ 1000000) : ∀ (ts s : List Int), s.length = c → (∀ x ∈ s, 0 ≤ x ∧ x ≤ L + M) → (∀ t ∈ ts, 0 ≤ t ∧ t ≤ M) → tot s + tot ts ≤ c * L →
    (loads ts s).length = c ∧ (∀ x ∈ loads ts s, 0 ≤ x ∧ x ≤ L + M) ∧ tot (loads ts s) = tot s + tot ts ∧ (∀ i : Nat, i < c → rd s (i : Int) ≤ rd (loads ts s) (i : Int)) ∧ (∀ t ∈ ts, ∃ x ∈ loads ts s, t ≤ x)
  | [], s, hs, hx, _, _ => by
    refine ⟨hs, hx, by simp [loads, tot], fun i _ => Int.le_refl _, by simp⟩
  | t :: ts, s, hs, hx, ht, hsum => by
    have ham := am_le s (s.length - 1)
    have hamc : am s (s.length - 1) < s.length := by omega
    have hmin := am_min s (s.length - 1)
    obtain ⟨ht0, ht1⟩ := ht t (by simp)
    generalize hj : am s (s.length - 1) = j at *
    have hm := hx _ (rd_mem s j hamc)
    have hge : s.length * rd s (j : Int) ≤ tot s := tot_ge _ s (fun x hxs => by
      obtain ⟨i, hi, rfl⟩ := mem_rd hxs
      exact hmin i (by omega))
    have htn : 0 ≤ tot ts := by
      have := tot_ge 0 ts (fun x hxs => (ht x (by simp [hxs])).1)
      omega
    simp only [tot] at hsum
    have hmL : rd s (j : Int) ≤ L := by
      rw [hs] at hge
      have h1 : (c : Int) * rd s (j : Int) ≤ c * L := by omega
      exact Int.le_of_mul_le_mul_left h1 (by omega)
    have hwr : wrap64 (rd s (j : Int) + t) = rd s (j : Int) + t := by unfold wrap64; omega
    have hset := tot_set s j (rd s (j : Int) + t) hamc
    obtain ⟨r1, r2, r3, r4, r5⟩ := loads_facts c hc L M hL hL2 hM hM2 ts (s.set j (rd s (j : Int) + t)) (by simpa using hs)
      (fun x hxs => by
        rcases List.mem_or_eq_of_mem_set hxs with h | h
        · exact hx x h
        · omega)
      (fun x hxs => ht x (by simp [hxs])) (by rw [hset]; omega)
    have el : loads (t :: ts) s = loads ts (s.set j (rd s (j : Int) + t)) := by simp only [loads]; rw [hj, hwr]
    rw [el]
    refine ⟨r1, r2, by rw [r3, hset]; simp only [tot]; omega, fun i hi => ?_, fun y hy => ?_⟩
    · have h4 := r4 i hi
      rw [rd_set s j i _ hamc] at h4
      by_cases e : i = j
      · rw [if_pos e] at h4; rw [e] at h4 ⊢; omega
      · rw [if_neg e] at h4; exact h4
    · rcases List.mem_cons.1 hy with rfl | hy
      · have h4 := r4 j (by omega)
        rw [rd_set s j j _ hamc, if_pos rfl] at h4
        exact ⟨_, rd_mem (loads ts (s.set j (rd s (j : Int) + y))) j (by omega), by omega⟩
      · exact r5 y hy
theorem rd_append_left (a b : List Int) (i : Nat) (h : i < a.length) : rd (a ++ b) (i : Int) = rd a (i : Int) := by
  unfold rd
  simp only [Int.toNat_natCast, List.getD_eq_getElem?_getD]
  rw [List.getElem?_append_left h]
theorem spans_loads (T a : List Int) (c : Nat) (hc : 0 < c) (hc8 : c ≤ 8) : ∀ (ts s o pre : List Int), T = pre ++ ts → pre.length = o.length → a = o ++ picks ts s → s.length = c →
    spans T a ts.length (s ++ List.replicate (8 - c) 0) = some (loads ts s ++ List.replicate (8 - c) 0)
  | [], s, o, pre, _, _, _, _ => rfl
  | t :: ts, s, o, pre, hT, hp, ha, hs => by
    have ham := am_le s (s.length - 1)
    have hidx : T.length - (ts.length + 1) = o.length := by rw [hT]; simp; omega
    have hra : rd a ((o.length : Nat) : Int) = ((am s (s.length - 1) : Nat) : Int) := by
      rw [ha]
      unfold rd
      simp [picks]
    have hrt : rd T ((o.length : Nat) : Int) = t := by
      rw [hT, ← hp]
      unfold rd
      simp
    simp only [List.length_cons, spans]
    rw [hidx, hra, hrt]
    generalize hj : am s (s.length - 1) = j at *
    have hin : inR 0 7 (j : Int) = true := (inR_iff _ _ _).2 ⟨by omega, by omega⟩
    rw [if_pos hin, rd_append_left _ _ _ (by omega), Int.toNat_natCast, List.set_append_left _ _ (by omega)]
    have ih := spans_loads T a c hc hc8 ts (s.set j (wrap64 (rd s (j : Int) + t))) (o ++ [(j : Int)]) (pre ++ [t]) (by rw [hT]; simp) (by simp; omega) (by rw [ha]; simp only [picks]; rw [hj]; simp) (by simpa using hs)
    rw [ih]
    simp only [loads]
    rw [hj]

/-- The least span. -/
def leastZ (l : List Int) (c : Int) : Int := mx (maxL 0 l) ((tot l + c - 1) / c)
theorem LeastSpan_ev (l : List Int) (c : Int) (hl : timesB l = true) (h1 : 1 ≤ c) (h8 : c ≤ 8) : Ev (fun k => impl_LeastSpan.f k l c) (leastZ l c) := by
  have hn := timesB_len hl
  have hall : ∀ x ∈ l, 0 ≤ x ∧ x ≤ 1000000 := fun x hx => by
    unfold timesB at hl
    simp only [Bool.and_eq_true, List.all_eq_true] at hl
    exact (inR_iff _ _ _).1 (hl.2 x hx)
  have key : ∀ d (i : Nat) (s m : Int), i ≤ l.length → l.length - i = d → 0 ≤ s → s ≤ 1000000 * i → Ev (fun k => impl_LeastSpan.l0 k c s m l (l.length : Int) i) (mx (maxL m (l.drop i)) ((s + tot (l.drop i) + c - 1) / c)) := by
    intro d
    induction d with
    | zero =>
      intro i s m hi hd hs0 hs1
      have e : l.drop i = [] := List.drop_of_length_le (by omega)
      rw [e]
      refine Ev.step (f := fun _ => some (mx m (wrap64 (Int.tdiv (wrap64 ((wrap64 (s + c)) - 1)) c)))) (fun k => ?_) ?_
      · simp only [impl_LeastSpan.l0]
        rw [if_neg (by omega), if_neg (by omega)]
      · have e1 : wrap64 (s + c) = s + c := by unfold wrap64; omega
        have e2 : wrap64 (s + c - 1) = s + c - 1 := by unfold wrap64; omega
        have e3 : Int.tdiv (s + c - 1) c = (s + c - 1) / c := Int.tdiv_eq_ediv_of_nonneg (by omega)
        have e4 : 0 ≤ (s + c - 1) / c := Int.ediv_nonneg (by omega) (by omega)
        have e5 : (s + c - 1) / c ≤ s + c - 1 := Int.ediv_le_self _ (by omega)
        have e6 : wrap64 ((s + c - 1) / c) = (s + c - 1) / c := by unfold wrap64; omega
        rw [e1, e2, e3, e6]
        have e7 : s + tot [] + c - 1 = s + c - 1 := by simp [tot]
        rw [e7]
        exact Ev.now _
    | succ d ih =>
      intro i s m hi hd hs0 hs1
      have hlt : i < l.length := by omega
      have hx := hall _ (rd_mem l i hlt)
      have hw : wrap64 (s + rd l i) = s + rd l i := by unfold wrap64; omega
      have hih := ih (i + 1) (s + rd l i) (mx m (rd l i)) (by omega) (by omega) (by omega) (by omega)
      have ed : l.drop i = rd l i :: l.drop (i + 1) := by rw [List.drop_eq_getElem_cons hlt, rd_at l i hlt]
      have et : s + tot (l.drop i) + c - 1 = s + rd l i + tot (l.drop (i + 1)) + c - 1 := by rw [ed]; simp only [tot]; omega
      rw [et, ed]
      refine Ev.step (fun k => ?_) hih
      simp only [impl_LeastSpan.l0]
      rw [if_pos (by omega), if_pos (by omega), if_pos (by omega), wrap_succ hlt (by omega), hw]
  have h0 := key l.length 0 0 0 (by omega) (by omega) (by omega) (by omega)
  refine Ev.congr (fun k => ?_) (r := leastZ l c) (f := fun k => impl_LeastSpan.l0 k c 0 0 l (l.length : Int) 0) (by have e : (0 : Int) + tot (l.drop 0) + c - 1 = tot l + c - 1 := by simp
                                                                                                                     rw [e] at h0; exact h0)
  unfold impl_LeastSpan.f
  rw [impl_areCores_f, Option.bind_some, hl, if_pos (by simp [inR_iff]; omega)]
theorem leastZ_perm {a b : List Int} (h : a.Perm b) (c : Int) : leastZ a c = leastZ b c := by
  unfold leastZ
  rw [tot_perm h]
  have e : maxL 0 a = maxL 0 b := by
    refine Int.le_antisymm (maxL_le _ _ _ (le_maxL _ _) fun x hx => mem_le_maxL _ _ _ (h.mem_iff.1 hx)) (maxL_le _ _ _ (le_maxL _ _) fun x hx => mem_le_maxL _ _ _ (h.mem_iff.2 hx))
  rw [e]
theorem Makespan_ev (T : List Int) (c : Nat) (hc : 0 < c) (hc8 : c ≤ 8) (hT : timesB T = true) :
    Ev (fun k => impl_Makespan.f k T (asg T (List.replicate c 0) [])) (maxL 0 (loads T (List.replicate c 0) ++ List.replicate (8 - c) 0)) ∧ leastZ T c ≤ maxL 0 (loads T (List.replicate c 0) ++ List.replicate (8 - c) 0) ∧ maxL 0 (loads T (List.replicate c 0) ++ List.replicate (8 - c) 0) ≤ 2 * leastZ T c ∧ 0 ≤ leastZ T c ∧ leastZ T c ≤ 100000000 := by
  have hn := timesB_len hT
  have hall : ∀ x ∈ T, 0 ≤ x ∧ x ≤ 1000000 := fun x hx => by
    unfold timesB at hT
    simp only [Bool.and_eq_true, List.all_eq_true] at hT
    exact (inR_iff _ _ _).1 (hT.2 x hx)
  have hM0 := le_maxL 0 T
  have hM1 : maxL 0 T ≤ 1000000 := maxL_le _ _ _ (by omega) (fun x hx => (hall x hx).2)
  have hS0 : 0 ≤ tot T := by have := tot_ge 0 T (fun x hx => (hall x hx).1); omega
  have hS1 : tot T ≤ 60000000 := by have := tot_le 1000000 T (fun x hx => (hall x hx).2); omega
  have hL0 : 0 ≤ (tot T + c - 1) / c := Int.ediv_nonneg (by omega) (by omega)
  have hL1 : (tot T + c - 1) / c ≤ tot T + c - 1 := Int.ediv_le_self _ (by omega)
  have hLs : tot T ≤ c * ((tot T + c - 1) / c) := by
    have h1 := Int.emod_add_mul_ediv (tot T + c - 1) c
    have h2 := Int.emod_lt_of_pos (tot T + c - 1) (show (0 : Int) < c by omega)
    omega
  obtain ⟨r1, r2, r3, r4, r5⟩ := loads_facts c hc ((tot T + c - 1) / c) (maxL 0 T) hL0 (by omega) hM0 hM1 T (List.replicate c 0) (by simp)
    (fun x hx => by have := List.eq_of_mem_replicate hx; omega) (fun t ht => ⟨(hall t ht).1, mem_le_maxL _ _ _ ht⟩) (by rw [tot_zeros]; omega)
  rw [tot_zeros] at r3
  have hsp := spans_loads T (asg T (List.replicate c 0) []) c hc hc8 T (List.replicate c 0) [] [] rfl rfl (by rw [asg_picks]) (by simp)
  generalize hz : loads T (List.replicate c 0) ++ List.replicate (8 - c) 0 = z at *
  have hz8 : z.length = 8 := by rw [← hz]; simp [r1]; omega
  have hzn : ∀ x ∈ z, 0 ≤ x ∧ x ≤ (tot T + c - 1) / c + maxL 0 T := by
    intro x hx
    rw [← hz] at hx
    rcases List.mem_append.1 hx with h | h
    · exact r2 x h
    · have := List.eq_of_mem_replicate h; omega
  have hmax := max_same z hz8 (fun x hx => (hzn x hx).1)
  have hle : ∀ x ∈ loads T (List.replicate c 0), x ≤ maxL 0 z := fun x hx => mem_le_maxL _ _ _ (by rw [← hz]; exact List.mem_append_left _ hx)
  have hl2 : leastZ T c = mx (maxL 0 T) ((tot T + c - 1) / c) := rfl
  have k1 := le_mx1 (maxL 0 T) ((tot T + c - 1) / c)
  have k2 := le_mx2 (maxL 0 T) ((tot T + c - 1) / c)
  refine ⟨?_, ?_, ?_, by omega, ?_⟩
  · have hl : (asg T (List.replicate c 0) []).length = T.length := by rw [asg_len]; simp
    have h0 := impl_spans T (asg T (List.replicate c 0) []) hl (by omega) (fun x hx => (inR_iff _ _ _).2 (hall x hx)) T.length (List.replicate 8 0) (Nat.le_refl _) (by simp)
    have e8 : List.replicate c (0 : Int) ++ List.replicate (8 - c) 0 = List.replicate 8 0 := by rw [List.replicate_append_replicate]; congr 1; omega
    rw [e8] at hsp
    rw [hsp] at h0
    dsimp only at h0
    rw [hmax, Nat.sub_self] at h0
    refine Ev.congr (f := fun k => impl_Makespan.j0 k T (asg T (List.replicate c 0) []) false) (fun k => ?_) (Ev.step (f := fun k => impl_Makespan.l0 k T (List.replicate 8 0) (asg T (List.replicate c 0) []) ((asg T (List.replicate c 0) []).length : Int) 0) (fun k => ?_) h0)
    · unfold impl_Makespan.f
      rw [impl_TimesOk_f, Option.bind_some, if_pos hT, hl]
      simp
    · simp only [impl_Makespan.j0]
      rw [if_neg (by simp), if_pos (by omega)]
  · rw [hl2]
    refine mx_le (maxL_le _ _ _ (le_maxL _ _) fun t ht => ?_) ?_
    · obtain ⟨x, hx, hxt⟩ := r5 t ht
      exact Int.le_trans hxt (hle x hx)
    · have h1 := tot_le (maxL 0 z) _ hle
      rw [r1, r3] at h1
      refine Int.le_of_lt_add_one (Int.ediv_lt_of_lt_mul (by omega) ?_)
      rw [Int.add_mul, Int.mul_comm]
      omega
  · refine maxL_le _ _ _ (by omega) fun x hx => ?_
    have := (hzn x hx).2
    omega
  · rw [hl2]; exact mx_le (by omega) (by omega)
theorem times_mem (x y : Int) (h : x ∈ ([1, 2, 5, 0, 100, y] : List Int)) (hy : 0 ≤ y ∧ y < 50) : inR 0 1000000 x = true := by
  simp only [List.mem_cons, List.not_mem_nil, or_false] at h
  rw [inR_iff]
  rcases h with h | h | h | h | h | h <;> omega
theorem times_snoc {acc : List Int} {x : Int} (h : ∀ z ∈ acc, inR 0 1000000 z = true) (hx : inR 0 1000000 x = true) : ∀ z ∈ acc ++ [x], inR 0 1000000 z = true := by
  intro z hz
  rcases List.mem_append.1 hz with h1 | h1
  · exact h z h1
  · rw [List.mem_singleton] at h1; subst h1; exact hx
theorem small_len {n : Nat} (h : n ≤ 10) : n < 17592186044416 := Nat.lt_of_le_of_lt h (by decide)
theorem wrap_nat (j : Nat) (h : j < 1000000) : wrap64 ((j : Int) + 1) = ((j + 1 : Nat) : Int) := by unfold wrap64; omega
set_option maxHeartbeats 4000000 in
theorem DrawTimes_ev (l : List Int) (hl : l.length ≤ 140737488351232) : ∃ T : List Int, timesB T = true ∧ Ev (fun k => spec_DrawTimes.f k l) T := by
  obtain ⟨h, hn⟩ := l01New_ev l hl
  have key : ∀ d (j : Nat) (acc : List Int) (i h : Int), j + d = 10 → acc.length = j → (∀ x ∈ acc, inR 0 1000000 x = true) → 0 ≤ i → ∃ T i' h', T.length ≤ 10 ∧ (∀ x ∈ T, inR 0 1000000 x = true) ∧ Ev (fun k => spec_l38Times.l0 k acc (j : Int) l i h) (T, i', h') := by
    intro d
    induction d with
    | zero =>
      intro j acc i h hj ha hx hi
      obtain ⟨v, i', h', e, hi', _, hv⟩ := l01Below_f l i h 10 hi hl
      have hv := hv (by omega)
      exact ⟨acc, i', h', by omega, hx, Ev.step (f := fun _ => some (acc, i', h')) (fun k => by simp only [spec_l38Times.l0]; rw [e, Option.bind_some]; dsimp only; rw [if_neg (by omega)]) (Ev.now _)⟩
    | succ d ih =>
      intro j acc i h hj ha hx hi
      obtain ⟨v, i', h', e, hi', _, hv⟩ := l01Below_f l i h 10 hi hl
      have hv := hv (by omega)
      by_cases hjv : (j : Int) < v
      · obtain ⟨y, i2, h2, e2, hi2, _, hy⟩ := l01Below_f l i' h' 50 hi' hl
        have hy := hy (by omega)
        obtain ⟨x, i3, h3, e3, hi3, hm⟩ := l01PickInt_f l i2 h2 [1, 2, 5, 0, 100, y] hi2 hl (by simp)
        have hxr : inR 0 1000000 x = true := times_mem x y hm hy
        clear hm
        obtain ⟨T, i4, h4, hT, hq, hr⟩ := ih (j + 1) (acc ++ [x]) i3 h3 (by omega) (by simp; omega) (times_snoc hx hxr) hi3
        have hw := wrap_nat j (by omega)
        have hlen : acc.length < 17592186044416 := small_len (ha ▸ (show j ≤ 10 by clear hw e e2 e3 hr hq hT hxr; omega))
        refine ⟨T, i4, h4, hT, hq, Ev.step (fun k => ?_) hr⟩
        simp only [spec_l38Times.l0]
        rw [e, Option.bind_some]; dsimp only; rw [if_pos hjv, e2, Option.bind_some]; dsimp only; rw [e3, Option.bind_some]; dsimp only; rw [if_pos hlen, hw]
      · exact ⟨acc, i', h', by omega, hx, Ev.step (f := fun _ => some (acc, i', h')) (fun k => by simp only [spec_l38Times.l0]; rw [e, Option.bind_some]; dsimp only; rw [if_neg hjv]) (Ev.now _)⟩
  obtain ⟨T, i', h', hT, hq, hr⟩ := key 10 0 [] 0 h (by omega) rfl (by simp) (by omega)
  refine ⟨T, ?_, Ev.bind hn (Ev.bind (f := fun k (bt862 : List Int × Int × Int) => some bt862.1) hr (Ev.now _))⟩
  unfold timesB
  rw [Bool.and_eq_true, decide_eq_true_eq, List.all_eq_true]
  exact ⟨by omega, hq⟩

end Go.Proofs.Ytopckcppmpmcnaa.Q
