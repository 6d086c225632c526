/- Both IssueAll functions run the schedule. -/
import Derived.Test.YtopckcppmpmcnaaKFnExactResidentFor34
namespace Go.Proofs.Ytopckcppmpmcnaa.Q
open Go.RowKit Go.Proofs.YtopckcppmpmcnaaW.PrintWords Go.Proofs.YtopckcppmpmcnaaW.PrintLast Go.Proofs.YtopckcppmpmcnaaW.PrintMore
set_option linter.unusedVariables false
set_option linter.unusedSimpArgs false

structure FlatR (bs : List Int) (B : List (List Int)) (n : Nat) : Prop where
  len : bs.length = 4 * n
  eq : ∀ w j : Nat, w < n → j < 4 → rd bs ((w * 4 + j : Nat) : Int) = rd (B.getD w []) (j : Int)
theorem readyZ_flat {bs : List Int} {B : List (List Int)} {n : Nat} (h : FlatR bs B n) (q : Nat) (hq : q < n) (u : List Int) (hu : u.all (inR 0 3) = true) : readyZ bs (q * 4) u = fmax (B.getD q []) 0 u := by
  unfold readyZ fmax
  have key : ∀ (u : List Int) (c : Int), u.all (inR 0 3) = true → u.foldl (fun c x => mx c (rd bs (((q * 4 : Nat) : Int) + x))) c = u.foldl (fun c x => mx c (rd (B.getD q []) x)) c := by
    intro u
    induction u with
    | nil => intro c _; rfl
    | cons y u ih =>
      intro c hc
      rw [List.all_cons, Bool.and_eq_true] at hc
      obtain ⟨y0, y3⟩ := (inR_iff _ _ _).1 hc.1
      obtain ⟨j, rfl⟩ := Int.eq_ofNat_of_zero_le y0
      have e : rd bs (((q * 4 : Nat) : Int) + (j : Int)) = rd (B.getD q []) (j : Int) := by
        rw [← h.eq q j hq (by omega)]
        congr 1
      rw [List.foldl_cons, List.foldl_cons, e]
      exact ih _ hc.2
  exact key u 0 hu
theorem ready_at_f {l : List S45} {n : Nat} {bs : List Int} {B : List (List Int)} {nx : List Int} (hok : lokB l = true) (h : FlatR bs B n) (w : Int) (h0 : 0 ≤ w) (h1 : w < (n : Int)) (hn0 : 0 ≤ rd nx w) (hn1 : rd nx w < (l.length : Int)) : ready_at l bs nx w = some (rdyW l B nx w) := by
  obtain ⟨j, hj⟩ := Int.eq_ofNat_of_zero_le hn0
  have hg := lokB_good hok j (by omega)
  unfold ready_at board_ready.f rdyW bAt
  rw [hj]
  rw [impl_usedBy_f, Option.bind_some, if_pos (uses_in hg), readyZ_flat h w.toNat (by omega) _ (uses_in hg)]
theorem issue_at_f {l : List S45} {n : Nat} {bs : List Int} {B : List (List Int)} {nx : List Int} {t : Int} (hok : lokB l = true) (h : FlatR bs B n) (hBl : B.length = n) (hbl : ∀ w, w < n → (B.getD w []).length = 4) (w : Int) (h0 : 0 ≤ w) (h1 : w < (n : Int)) (hn0 : 0 ≤ rd nx w) (hn1 : rd nx w < (l.length : Int)) (t0 : 0 ≤ t) (t1 : t ≤ 10000) :
    ∃ b2, issue_at l bs nx w t = some b2 ∧ FlatR b2 (B.set w.toNat (itBoard (bAt B w) (rd_T45 l (rd nx w)) t)) n := by
  obtain ⟨j, hj⟩ := Int.eq_ofNat_of_zero_le hn0
  have hg := lokB_good hok j (by omega)
  rw [← hj] at hg
  have hlat := lat_bd (rd_T45 l (rd nx w))
  unfold issue_at board_issue.f
  rw [impl_wr_f, Option.bind_some]
  generalize rd_T45 l (rd nx w) = x at *
  have hq : w.toNat < n := by omega
  by_cases hw : wrReg x ≥ 0
  · have hw4 := wr_lt hg hw
    have e : wrap64 (t + latOf x) = t + latOf x := wrap_small (by omega) (by omega)
    rw [if_pos hw, if_pos hw4, impl_lat_f, Option.bind_some, e]
    clear e
    refine ⟨_, rfl, by simpa using h.len, fun v i hv hi => ?_⟩
    obtain ⟨r, hr⟩ := Int.eq_ofNat_of_zero_le (show 0 ≤ wrReg x from hw)
    rw [getD_set B _ _ _ (by omega), rd_set _ _ _ _ (by have := h.len; omega)]
    have hb := hbl w.toNat hq
    unfold itBoard bAt
    rw [if_pos hw, hr, Int.toNat_natCast]
    by_cases e1 : v = w.toNat
    · subst e1
      rw [if_pos rfl, rd_set _ _ _ _ (by omega)]
      by_cases e2 : i = r
      · rw [if_pos (by omega), if_pos e2]
      · rw [if_neg (by omega), if_neg e2]; exact h.eq _ i hv hi
    · rw [if_neg e1, if_neg (by omega)]; exact h.eq v i hv hi
  · rw [if_neg hw]
    refine ⟨bs, rfl, h.len, fun v i hv hi => ?_⟩
    rw [getD_set B _ _ _ (by omega)]
    unfold itBoard bAt
    rw [if_neg hw]
    split
    · rename_i e; subst e; exact h.eq _ i hv hi
    · exact h.eq v i hv hi
def pkI (o : Option Int) : Int := match o with | some w => w | none => -1
theorem choose_f {l : List S45} {n : Nat} {bs : List Int} {B : List (List Int)} {nx : List Int} {fr fri t : Int} (hok : lokB l = true) (hv : Vs l n B nx fr t) (h : FlatR bs B n) (hfr : ∀ k : Int, (fri + k) % (n : Int) = (fr + k) % (n : Int)) :
    ∀ (d : Nat) (k : Int), 0 ≤ k → (n : Int) - k = (d : Int) → ∀ K : Nat, d < K → choose.l0 K l bs nx n fri t k = some (pkI (pk l B nx n fr t d k)) := by
  have hn1 := hv.n1
  intro d
  induction d with
  | zero =>
    intro k hk hd K hK
    obtain ⟨K, rfl⟩ : ∃ m, K = m + 1 := ⟨K - 1, by omega⟩
    simp only [choose.l0, pk, pkI]
    rw [if_neg (by omega)]
  | succ d ih =>
    intro k hk hd K hK
    obtain ⟨K, rfl⟩ : ∃ m, K = m + 1 := ⟨K - 1, by omega⟩
    have w0 : 0 ≤ (fr + k) % (n : Int) := Int.emod_nonneg _ (by omega)
    have w1 : (fr + k) % (n : Int) < n := Int.emod_lt_of_pos _ (by omega)
    have hat := hv.at _ w0 w1
    have hih := ih (k + 1) (by omega) (by omega) K (by omega)
    simp only [choose.l0, pk]
    rw [hfr k, if_pos (by omega), if_pos hat.1]
    by_cases c : rd nx ((fr + k) % (n : Int)) < (l.length : Int)
    · rw [if_pos c, ready_at_f hok h _ w0 w1 hat.1 c, Option.bind_some]
      by_cases c2 : rdyW l B nx ((fr + k) % (n : Int)) ≤ t
      · rw [if_pos c2, if_pos (show canW l B nx ((fr + k) % (n : Int)) t from ⟨c, c2⟩)]; rfl
      · rw [if_neg c2, if_neg (show ¬ canW l B nx ((fr + k) % (n : Int)) t from fun h => c2 h.2)]; exact hih
    · rw [if_neg c, if_neg (show ¬ canW l B nx ((fr + k) % (n : Int)) t from fun h => c h.1)]; exact hih
theorem mod_add (a k : Int) (n : Nat) : (a % (n : Int) + k) % (n : Int) = (a + k) % (n : Int) := by
  first | exact Int.emod_add_emod a n k | simp | (rw [Int.add_emod, Int.emod_emod_of_dvd _ (Int.dvd_refl _), ← Int.add_emod])
theorem impl_run {l : List S45} {n : Nat} {pol : Int} (hok : lokB l = true) {B : List (List Int)} {nx : List Int} {out : List S49} {fr t : Int} {F : List S49} (hr : Run l n pol B nx out fr t F) :
    ∀ (bs : List Int) (fri : Int), Vs l n B nx fr t → FlatR bs B n → (∀ k : Int, (fri + k) % (n : Int) = (fr + k) % (n : Int)) → (¬ pol = 1 → fri = 0 ∧ fr = 0) → Ev (fun K => impl_IssueAll.l0 K l bs nx n pol out fri t) F := by
  have hl := lokB_len hok
  have hne : ((n * l.length : Nat) : Int) = (n : Int) * (l.length : Int) := by simp
  induction hr with
  | done B nx out fr t ho =>
    intro bs fri hv hf hfr hp
    have c : ¬ (out.length : Int) < (n : Int) * (l.length : Int) := by omega
    refine Ev.step (f := fun _ => some out) (fun k => ?_) (Ev.now _)
    simp only [impl_IssueAll.l0]
    rw [if_neg c]
  | idle B nx out fr t F ho ht hpk _ ih =>
    intro bs fri hv hf hfr hp
    have c : (out.length : Int) < (n : Int) * (l.length : Int) := by omega
    have hch := choose_f hok hv hf hfr n 0 (by omega) (by omega)
    rw [hpk] at hch
    have hih := ih bs fri hv.tick hf hfr hp
    have t0 := hv.t0
    have a0 : 0 ≤ t + 1 := by omega
    have a1 : t + 1 ≤ 1000000 := by omega
    have e := wrap_small a0 a1
    have hce : Ev (fun K => choose.l0 K l bs nx n fri t 0) (-1) := ⟨n + 1, fun K hK => hch K (by omega)⟩
    refine Ev.step (f := ?f) (fun K => ?h) ?g
    case h =>
      simp only [impl_IssueAll.l0]
      rw [if_pos c]
    case g =>
      refine Ev.bind hce ?_
      simp only [if_pos (show (-1 : Int) < 0 by omega), e]
      exact hih
  | step B nx out fr t F w ho ht hpk _ ih =>
    intro bs fri hv hf hfr hp
    have c : (out.length : Int) < (n : Int) * (l.length : Int) := by omega
    obtain ⟨w0, w1, hcan⟩ := pk_in l B nx n fr t hv.n1 n 0 w hpk
    have hat := hv.at w w0 w1
    have hch := choose_f hok hv hf hfr n 0 (by omega) (by omega)
    rw [hpk] at hch
    have t0 := hv.t0
    obtain ⟨b2, hb2, hf2⟩ := issue_at_f (t := t) hok hf hv.Bl hv.bl w w0 w1 hat.1 hcan.1 t0 ht
    have hn8 : n * l.length ≤ 8 * 32 := Nat.mul_le_mul hv.n8 hl
    have hlo : out.length < 1099511627776 := Nat.lt_of_lt_of_le ho (Nat.le_trans hn8 (by decide))
    have hv2 := hv.step w w0 w1 hcan.1 (nextFr pol w n)
    have hn1 := hv.n1
    have hih := ih b2 (if pol = 1 then w + 1 else fri) hv2 hf2 (fun k => by
      unfold nextFr
      by_cases h : pol = 1
      · rw [if_pos h, if_pos h]; exact (mod_add (w + 1) k n).symm
      · rw [if_neg h, if_neg h, (hp h).1]) (fun h => by unfold nextFr; rw [if_neg h, if_neg h]; exact ⟨(hp h).1, rfl⟩)
    have a0 : 0 ≤ t + 1 := by omega
    have a1 : t + 1 ≤ 1000000 := by omega
    have a2 : ¬ w < 0 := by omega
    have e := wrap_small a0 a1
    have hce : Ev (fun K => choose.l0 K l bs nx n fri t 0) w := ⟨n + 1, fun K hK => hch K (by clear e; omega)⟩
    refine Ev.step (f := ?f2) (fun K => ?h2) ?g2
    case h2 =>
      simp only [impl_IssueAll.l0]
      rw [if_pos c]
    case g2 =>
      refine Ev.bind hce ?_
      simp only [if_neg a2, if_pos w1, if_pos hat.1, if_pos hcan.1, hb2, Option.bind_some, if_pos hlo, e]
      exact hih
theorem can_ev (x : S45) (hx : insGood x = true) (b : List Int) (hb : b.length = 4) (t : Int) (ht : 0 ≤ t) : Ev (fun F => spec_can F x b t) (decide (fmax b 0 (usedL x) ≤ t)) := by
  obtain ⟨u, eu, hmu, hlu⟩ := spec_uses_ev x
  have huy : ∀ y ∈ u, 0 ≤ y ∧ y ≤ 3 := fun y hy => uses_reg x (insGood_op hx) y ((hmu y).1 hy)
  have hd : decide (fmax b 0 (usedL x) ≤ t) = (u.drop 0).all (fun y => decide (rd b y ≤ t)) := by
    rw [Bool.eq_iff_iff, decide_eq_true_eq, List.all_eq_true, fmax_le]
    constructor
    · rintro ⟨_, h⟩ y hy; exact decide_eq_true (h y ((mem_usedL x y).2 ((hmu y).1 (by simpa using hy))))
    · intro h; exact ⟨ht, fun y hy => of_decide_eq_true (h y (by simpa using (hmu y).2 ((mem_usedL x y).1 hy)))⟩
  rw [hd]
  have key : ∀ (d j : Nat), u.length - j = d → j ≤ u.length → Ev (fun k => spec_l36Can.l0 k b t u (j : Int)) ((u.drop j).all (fun y => decide (rd b y ≤ t))) := by
    intro d
    induction d with
    | zero =>
      intro j hd hj
      rw [List.drop_of_length_le (by omega)]
      refine Ev.step (f := fun _ => some true) (fun k => ?_) (by simpa using Ev.now true)
      simp only [spec_l36Can.l0]
      rw [if_neg (by omega)]
    | succ d ih =>
      intro j hd hj
      have hlt : j < u.length := by omega
      have hy := huy _ (List.getElem_mem hlt)
      have hr := rd_at u j hlt
      have hih := ih (j + 1) (by omega) (by omega)
      have c1 : (j : Int) < (u.length : Int) := by omega
      have c2 : (0 : Int) ≤ (j : Int) := by omega
      have c3 : (0 : Int) ≤ u[j] := by omega
      have c4 : u[j] < (b.length : Int) := by omega
      rw [List.drop_eq_getElem_cons hlt, List.all_cons]
      by_cases g : rd b u[j] > t
      · rw [decide_eq_false (show ¬ rd b u[j] ≤ t by omega), Bool.false_and]
        refine Ev.step (f := fun _ => some false) (fun k => ?_) (Ev.now _)
        simp only [spec_l36Can.l0]
        rw [if_pos c1, if_pos c2, hr, if_pos c3, if_pos c4, if_pos g]
      · rw [decide_eq_true (show rd b u[j] ≤ t by omega), Bool.true_and]
        have a3 : j < 1000000 := by omega
        have e2 := wrap_nat' j a3
        refine Ev.step (fun k => ?_) hih
        simp only [spec_l36Can.l0]
        rw [if_pos c1, if_pos c2, hr, if_pos c3, if_pos c4, if_neg g, e2]
  exact Ev.bind (f := fun k t453 => spec_l36Can.l0 k b t t453 0) eu (key u.length 0 (by omega) (by omega))
theorem put_f (x : S45) (hx : insGood x = true) (b : List Int) (t : Int) (h0 : 0 ≤ t) (h1 : t ≤ 10000) : spec_put x b t = some (itBoard b x t) := by
  have hlat := lat_bd x
  unfold spec_put itBoard
  rw [spec_wr_f, Option.bind_some]
  by_cases hw : wrReg x ≥ 0
  · have e : wrap64 (t + latOf x) = t + latOf x := wrap_small (by omega) (by omega)
    rw [if_pos hw, if_pos hw, if_pos (wr_lt hx hw), spec_lat_f, Option.bind_some, e]
  · rw [if_neg hw, if_neg hw]
theorem spec_inner {l : List S45} {n : Nat} {pol : Int} (hok : lokB l = true) {B : List (List Int)} {nx : List Int} {out : List S49} {fr frs t : Int} {G : List S49} (hv : Vs l n B nx fr t) (ht : t ≤ 10000) (ho : out.length < n * l.length) (hw : ∀ k : Int, 0 ≤ k → k < (n : Int) → wOf pol frs k n = (fr + k) % (n : Int)) :
    ∀ (d : Nat) (k : Int), 0 ≤ k → (n : Int) - k = (d : Int) →
      (pk l B nx n fr t d k = none → Ev (fun K => spec_l36Issue.l0 K l B nx n pol out frs (t + 1) (-1)) G) →
      (∀ w, pk l B nx n fr t d k = some w → Ev (fun K => spec_l36Issue.l0 K l (B.set w.toNat (itBoard (bAt B w) (rd_T45 l (rd nx w)) t)) (nx.set w.toNat (rd nx w + 1)) n pol (out ++ [⟨t, w, rd nx w⟩]) ((w + 1) % n) (t + 1) (-1)) G) →
      Ev (fun K => spec_l36Issue.l0 K l B nx n pol out frs t k) G := by
  have hn1 := hv.n1
  have hl := lokB_len hok
  have t0 := hv.t0
  have hn8 : n * l.length ≤ 8 * 32 := Nat.mul_le_mul hv.n8 hl
  have hlo : out.length < 1099511627776 := Nat.lt_of_lt_of_le ho (Nat.le_trans hn8 (by decide))
  have a0 : 0 ≤ t + 1 := by omega
  have a1 : t + 1 ≤ 1000000 := by omega
  have E := Aside0.mk (wrap_small a0 a1)
  intro d
  induction d with
  | zero =>
    intro k hk hd hnone _
    have c1 : ¬ k < 0 := by omega
    have c2 : ¬ k < (n : Int) := by omega
    refine Ev.step (fun K => ?_) (hnone rfl)
    simp only [spec_l36Issue.l0]
    rw [if_neg c1, if_neg c2, E.out]
  | succ d ih =>
    intro k hk hd hnone hsome
    have c1 : ¬ k < 0 := by omega
    have c2 : k < (n : Int) := by omega
    have hwk := hw k hk c2
    have w0 : 0 ≤ (fr + k) % (n : Int) := Int.emod_nonneg _ (by omega)
    have w1 : (fr + k) % (n : Int) < n := Int.emod_lt_of_pos _ (by omega)
    have hat := hv.at _ w0 w1
    simp only [pk] at hnone hsome
    generalize (fr + k) % (n : Int) = w at *
    by_cases g1 : rd nx w = (l.length : Int)
    · have hcan : ¬ canW l B nx w t := fun h => by have := h.1; omega
      rw [if_neg hcan] at hnone
      simp only [if_neg hcan] at hsome
      have hih := ih (k + 1) (by omega) (by omega) hnone hsome
      refine Ev.step (fun K => ?_) hih
      simp only [spec_l36Issue.l0]
      rw [if_neg c1, if_pos c2, hwk, if_pos g1]
    · have g2 : rd nx w < (l.length : Int) := by omega
      obtain ⟨j, hj⟩ := Int.eq_ofNat_of_zero_le hat.1
      have hg := lokB_good hok j (by omega)
      rw [← hj] at hg
      have hcv := can_ev _ hg (bAt B w) (hv.bl w.toNat (by omega)) t t0
      have hpf := put_f _ hg (bAt B w) t t0 ht
      refine Ev.step (f := ?f) (fun K => ?h) ?g
      case h =>
        simp only [spec_l36Issue.l0]
        rw [if_neg c1, if_pos c2, hwk, if_neg g1, if_pos hat.1, if_pos g2]
      case g =>
        refine Ev.bind hcv ?_
        by_cases g3 : rdyW l B nx w ≤ t
        · have hcan : canW l B nx w t := ⟨g2, g3⟩
          simp only [if_pos hcan] at hsome
          have hgo := hsome w rfl
          have hdd : decide (fmax (bAt B w) 0 (usedL (rd_T45 l (rd nx w))) ≤ t) = true := decide_eq_true g3
          have hpf2 : spec_put (rd_T45 l (rd nx w)) (B.getD w.toNat []) t = some (itBoard (bAt B w) (rd_T45 l (rd nx w)) t) := hpf
          simp only [hdd, if_true, if_pos hlo, hpf2, Option.bind_some, E.out]
          exact hgo
        · have hcan : ¬ canW l B nx w t := fun h => g3 h.2
          rw [if_neg hcan] at hnone
          simp only [if_neg hcan] at hsome
          have hih := ih (k + 1) (by omega) (by omega) hnone hsome
          have hdd : decide (fmax (bAt B w) 0 (usedL (rd_T45 l (rd nx w))) ≤ t) = false := decide_eq_false g3
          simp only [hdd, Bool.false_eq_true, if_false]
          exact hih
theorem spec_run {l : List S45} {n : Nat} {pol : Int} (hok : lokB l = true) {B : List (List Int)} {nx : List Int} {out : List S49} {fr t : Int} {F : List S49} (hr : Run l n pol B nx out fr t F) :
    ∀ frs : Int, Vs l n B nx fr t → (pol = 1 → frs = fr) → (¬ pol = 1 → fr = 0) → Ev (fun K => spec_l36Issue.l0 K l B nx n pol out frs t (-1)) F := by
  have hl := lokB_len hok
  have hne : ((n * l.length : Nat) : Int) = (n : Int) * (l.length : Int) := by simp
  have hwof : ∀ (fr frs : Int), (pol = 1 → frs = fr) → (¬ pol = 1 → fr = 0) → ∀ k : Int, 0 ≤ k → k < (n : Int) → wOf pol frs k n = (fr + k) % (n : Int) := by
    intro fr frs h1 h2 k k0 k1
    unfold wOf
    by_cases h : pol = 1
    · rw [if_pos h, h1 h]
    · rw [if_neg h, h2 h, Int.zero_add, Int.emod_eq_of_lt k0 k1]
  induction hr with
  | done B nx out fr t ho =>
    intro frs hv h1 h2
    have c : ¬ (out.length : Int) < (n : Int) * (l.length : Int) := by omega
    refine Ev.step (f := fun _ => some out) (fun k => ?_) (Ev.now _)
    simp only [spec_l36Issue.l0]
    rw [if_pos (by omega), if_neg c]
  | idle B nx out fr t F ho ht hpk _ ih =>
    intro frs hv h1 h2
    have c : (out.length : Int) < (n : Int) * (l.length : Int) := by omega
    have hin := spec_inner (G := F) hok hv ht ho (hwof fr frs h1 h2) n 0 (by omega) (by omega) (fun _ => ih frs hv.tick h1 h2) (fun w hw => by rw [hpk] at hw; cases hw)
    refine Ev.step (fun k => ?_) hin
    simp only [spec_l36Issue.l0]
    rw [if_pos (by omega), if_pos c]
  | step B nx out fr t F w ho ht hpk _ ih =>
    intro frs hv h1 h2
    have c : (out.length : Int) < (n : Int) * (l.length : Int) := by omega
    obtain ⟨w0, w1, hcan⟩ := pk_in l B nx n fr t hv.n1 n 0 w hpk
    have hin := spec_inner (G := F) hok hv ht ho (hwof fr frs h1 h2) n 0 (by omega) (by omega) (fun h => by rw [hpk] at h; cases h) (fun v hw => by
      rw [hpk] at hw
      obtain rfl := Option.some.inj hw
      exact ih ((w + 1) % n) (hv.step w w0 w1 hcan.1 _) (fun h => by unfold nextFr; rw [if_pos h]) (fun h => by unfold nextFr; rw [if_neg h]))
    refine Ev.step (fun k => ?_) hin
    simp only [spec_l36Issue.l0]
    rw [if_pos (by omega), if_pos c]
theorem getD_rep {α : Type} (n w : Nat) (v d : α) (h : w < n) : (List.replicate n v).getD w d = v := by simp [List.getD_eq_getElem?_getD, h]
theorem Vs.start (l : List S45) (n : Nat) (h1 : 1 ≤ n) (h8 : n ≤ 8) : Vs l n (List.replicate n b0) (List.replicate n 0) 0 0 :=
  ⟨h1, h8, by simp, fun w hw => by rw [getD_rep n w _ _ hw]; rfl, fun w hw y hy => by rw [getD_rep n w _ _ hw] at hy; simp [b0] at hy; omega, by simp, fun x hx => by have := List.eq_of_mem_replicate hx; omega, by omega⟩
theorem FlatR.start (n : Nat) : FlatR (List.replicate (4 * n) 0) (List.replicate n b0) n := by
  refine ⟨by simp, fun w j hw hj => ?_⟩
  rw [getD_rep n w _ _ hw]
  have h1 : w * 4 + j < 4 * n := by omega
  have e : rd b0 (j : Int) = 0 := by
    have : j = 0 ∨ j = 1 ∨ j = 2 ∨ j = 3 := by omega
    rcases this with rfl | rfl | rfl | rfl <;> rfl
  rw [e]
  unfold Go.Proofs.YtopckcppmpmcnaaW.PrintWords.rd
  rw [Int.toNat_natCast]
  simp [List.getD_eq_getElem?_getD, h1]
/-- A schedule of a valid list: what both functions come to. -/
theorem sched_ex (l : List S45) (hok : lokB l = true) (n : Nat) (h1 : 1 ≤ n) (h8 : n ≤ 8) (pol : Int) (hp : inR 0 1 pol = true) : ∃ F, Run l n pol (List.replicate n b0) (List.replicate n 0) [] 0 0 F ∧ Ev (fun k => impl_IssueAll.f k l (n : Int) pol) F ∧ Ev (fun k => spec_l36Issue.f k l (n : Int) pol) F := by
  have hl := lokB_len hok
  obtain ⟨F, hF⟩ := run_ends l n pol hl (n * l.length - 0) (0 : Int).toNat (List.replicate n b0) (List.replicate n 0) [] 0 0 0 (Vs.start l n h1 h8) (by rw [tot_zeros]; simp) (by simp) (by simp) (by simp) (by omega)
    (fun w hw y hy => by rw [getD_rep n w _ _ hw] at hy; simp [b0] at hy; omega) (by simp) (by simp)
  refine ⟨F, hF, ?_, ?_⟩
  · have e0 := impl_ListOk_ev l (by omega)
    have e1 := impl_run hok hF (List.replicate (4 * n) 0) 0 (Vs.start l n h1 h8) (FlatR.start n) (fun k => rfl) (fun _ => ⟨rfl, rfl⟩)
    rw [hok] at e0
    have hn : inR 1 8 (n : Int) = true := (inR_iff _ _ _).2 (by omega)
    refine Ev.bind (f := fun k t => if t = true ∧ inR 1 8 (n : Int) = true ∧ inR 0 1 pol = true then (if l.length ≤ 32 then impl_IssueAll.l0 k l (List.replicate (4 * (n : Int).toNat) 0) (List.replicate (n : Int).toNat 0) n pol [] 0 0 else none) else some []) e0 ?_
    exact Ev.congr (fun k => by rw [if_pos ⟨rfl, hn, hp⟩, if_pos hl, Int.toNat_natCast]) e1
  · have e1 := spec_run hok hF 0 (Vs.start l n h1 h8) (fun _ => rfl) (fun _ => rfl)
    refine Ev.congr (fun k => ?_) e1
    unfold spec_l36Issue.f
    rw [if_pos ⟨by omega, by omega, hl⟩, Int.toNat_natCast]
    rfl

end Go.Proofs.Ytopckcppmpmcnaa.Q
