/- What holds of every schedule: each warp's cycles, and how they lie to those of one warp alone. -/
import Derived.Test.YtopckcppmpmcnaaKFnIssues35
namespace Go.Proofs.Ytopckcppmpmcnaa.Q
open Go.RowKit Go.Proofs.YtopckcppmpmcnaaW.PrintWords Go.Proofs.YtopckcppmpmcnaaW.PrintLast Go.Proofs.YtopckcppmpmcnaaW.PrintMore
set_option linter.unusedVariables false
set_option linter.unusedSimpArgs false

theorem wt_snoc (v : Int) (out : List S49) (s : S49) : wt v (out ++ [s]) = if s.f1 = v then wt v out ++ [s.f0] else wt v out := by
  unfold wt
  rw [List.filter_append]
  by_cases e : s.f1 = v <;> simp [e]
structure HI (l : List S45) (n : Nat) (B : List (List Int)) (nx : List Int) (out : List S49) (fr t : Int) : Prop where
  vs : Vs l n B nx fr t
  rise : out.Pairwise (fun a b => a.f0 < b.f0)
  lt : ∀ s ∈ out, 0 ≤ s.f0 ∧ s.f0 < t ∧ s.f0 ≤ 10000
  hist : ∀ w : Nat, w < n → ((wt (w : Int) out).length : Int) = rd nx (w : Int)
  dom : ∀ w : Nat, w < n → ∀ y : Nat, rd (stI l (wt (w : Int) out).length).1 (y : Int) ≤ rd (B.getD w []) (y : Int)
  snd : ∀ w : Nat, w < n → (stI l (wt (w : Int) out).length).2 ≤ t
  ge : ∀ w : Nat, w < n → ∀ k : Nat, k < (wt (w : Int) out).length → tmI l k ≤ rd (wt (w : Int) out) (k : Int)
  sum : tot nx = (out.length : Int)
theorem HI.tick {l : List S45} {n : Nat} {B : List (List Int)} {nx : List Int} {out : List S49} {fr t : Int} (h : HI l n B nx out fr t) : HI l n B nx out fr (t + 1) :=
  ⟨h.vs.tick, h.rise, fun s hs => by have := h.lt s hs; omega, h.hist, h.dom, fun w hw => by have := h.snd w hw; omega, h.ge, h.sum⟩
/-- A warp that can is behind what it would be alone. -/
theorem HI.ready {l : List S45} {n : Nat} {B : List (List Int)} {nx : List Int} {out : List S49} {fr t : Int} (hok : lokB l = true) (h : HI l n B nx out fr t) (w : Nat) (hw : w < n) (hc : canW l B nx (w : Int) t) : tmI l (wt (w : Int) out).length ≤ t := by
  have hh := h.hist w hw
  have hm : (wt (w : Int) out).length < l.length := by have := hc.1; omega
  have hg := lokB_good hok _ hm
  unfold tmI itStep
  rw [le_mx]
  refine ⟨h.snd w hw, ?_⟩
  have h2 := hc.2
  unfold rdyW bAt at h2
  rw [← hh, Int.toNat_natCast] at h2
  rw [fmax_le] at h2 ⊢
  refine ⟨h2.1, fun y hy => ?_⟩
  have hyr := uses_reg _ (insGood_op hg) y ((mem_usedL _ y).1 hy)
  obtain ⟨q, rfl⟩ := Int.eq_ofNat_of_zero_le hyr.1
  exact Int.le_trans (h.dom w hw q) (h2.2 _ hy)
theorem HI.step {l : List S45} {n : Nat} {B : List (List Int)} {nx : List Int} {out : List S49} {fr t : Int} (hok : lokB l = true) (h : HI l n B nx out fr t) (q : Nat) (hq : q < n) (hc : canW l B nx (q : Int) t) (ht : t ≤ 10000) (fr2 : Int) :
    HI l n (B.set q (itBoard (bAt B (q : Int)) (rd_T45 l (rd nx (q : Int))) t)) (nx.set q (rd nx (q : Int) + 1)) (out ++ [⟨t, (q : Int), rd nx (q : Int)⟩]) fr2 (t + 1) := by
  have hv := h.vs.step (q : Int) (by omega) (by omega) hc.1 fr2
  rw [Int.toNat_natCast] at hv
  have hr := HI.ready hok h q hq hc
  have hh := h.hist q hq
  have hm : (wt (q : Int) out).length < l.length := by have := hc.1; omega
  have hg := lokB_good hok _ hm
  have hqB : q < B.length := by have := h.vs.Bl; omega
  have hqn : q < nx.length := by have := h.vs.nl; omega
  have hst := stI_ok l (wt (q : Int) out).length
  have hbl := h.vs.bl q hq
  have hwt : ∀ w : Nat, wt (w : Int) (out ++ [⟨t, (q : Int), rd nx (q : Int)⟩]) = if w = q then wt (w : Int) out ++ [t] else wt (w : Int) out := by
    intro w
    rw [wt_snoc]
    by_cases e : w = q
    · subst e; rw [if_pos rfl, if_pos rfl]
    · rw [if_neg (show ¬ (q : Int) = (w : Int) by omega), if_neg e]
  have hts := tot_set nx q (rd nx (q : Int) + 1) hqn
  refine ⟨hv, ?_, fun s hs => ?_, fun w hw => ?_, fun w hw y => ?_, fun w hw => ?_, fun w hw k hk => ?_, ?_⟩
  · rw [List.pairwise_append]
    refine ⟨h.rise, List.pairwise_singleton _ _, fun a ha b hb => ?_⟩
    rw [List.mem_singleton] at hb; subst hb
    exact (h.lt a ha).2.1
  · have t0 := h.vs.t0
    rcases List.mem_append.1 hs with h1 | h1
    · have := h.lt s h1; omega
    · rw [List.mem_singleton] at h1; subst h1; dsimp only; omega
  · rw [hwt, rd_set _ _ _ _ hqn]
    by_cases e : w = q
    · rw [if_pos e, if_pos e]; subst e; simp; omega
    · rw [if_neg e, if_neg e]; exact h.hist w hw
  · rw [hwt, getD_set B _ _ _ hqB]
    by_cases e : w = q
    · subst e
      rw [if_pos rfl, if_pos rfl]
      have el : (wt (w : Int) out ++ [t]).length = (wt (w : Int) out).length + 1 := by simp
      have es : (stI l ((wt (w : Int) out).length + 1)).1 = itBoard (stI l (wt (w : Int) out).length).1 (rd_T45 l (((wt (w : Int) out).length : Nat) : Int)) (tmI l (wt (w : Int) out).length) := rfl
      rw [el, es, ← hh]
      have hlat := lat_bd (rd_T45 l (((wt (w : Int) out).length : Nat) : Int))
      have hd := h.dom w hw y
      unfold bAt
      rw [Int.toNat_natCast]
      unfold itBoard
      by_cases hwr : wrReg (rd_T45 l (((wt (w : Int) out).length : Nat) : Int)) ≥ 0
      · have h4 := wr_lt hg hwr
        rw [if_pos hwr, if_pos hwr, rd_set _ _ _ _ (by have := hst.1.len; omega), rd_set _ _ _ _ (by omega)]
        split
        · omega
        · exact hd
      · rw [if_neg hwr, if_neg hwr]; exact hd
    · rw [if_neg e, if_neg e]; exact h.dom w hw y
  · rw [hwt]
    by_cases e : w = q
    · subst e
      rw [if_pos rfl, List.length_append, List.length_singleton, stI_snd]; omega
    · rw [if_neg e]; have := h.snd w hw; omega
  · rw [hwt] at hk ⊢
    by_cases e : w = q
    · subst e
      rw [if_pos rfl] at hk ⊢
      by_cases e2 : k < (wt (w : Int) out).length
      · rw [rd_old _ _ k e2]; exact h.ge w hw k e2
      · have e3 : k = (wt (w : Int) out).length := by simp at hk; omega
        rw [e3, rd_new]; exact hr
    · rw [if_neg e] at hk ⊢; exact h.ge w hw k hk
  · rw [hts, h.sum]; simp; omega
theorem HI.start (l : List S45) (n : Nat) (hv : Vs l n (List.replicate n b0) (List.replicate n 0) 0 0) : HI l n (List.replicate n b0) (List.replicate n 0) [] 0 0 := by
  have hw0 : ∀ w : Int, wt w [] = [] := fun w => rfl
  refine ⟨hv, List.Pairwise.nil, fun s hs => by simp at hs, fun w hw => ?_, fun w hw y => ?_, fun w hw => ?_, fun w hw k hk => ?_, by rw [tot_zeros]; simp⟩
  · rw [hw0]
    unfold Go.Proofs.YtopckcppmpmcnaaW.PrintWords.rd
    simp [List.getD_eq_getElem?_getD, hw]
  · rw [hw0]
    have : (List.replicate n b0).getD w [] = b0 := by simp [List.getD_eq_getElem?_getD, hw]
    rw [this]
    exact Int.le_refl _
  · rw [hw0]; simp [stI]
  · rw [hw0] at hk; simp at hk
theorem run_inv {l : List S45} {n : Nat} {pol : Int} (hok : lokB l = true) {B : List (List Int)} {nx : List Int} {out : List S49} {fr t : Int} {F : List S49} (hr : Run l n pol B nx out fr t F) :
    HI l n B nx out fr t → F.length = n * l.length ∧ ∃ B' nx' fr' t', HI l n B' nx' F fr' t' := by
  induction hr with
  | done B nx out fr t ho => intro h; exact ⟨ho, B, nx, fr, t, h⟩
  | idle B nx out fr t F ho ht hpk _ ih => intro h; exact ih h.tick
  | step B nx out fr t F w ho ht hpk _ ih =>
    intro h
    obtain ⟨w0, w1, hc⟩ := pk_in l B nx n fr t h.vs.n1 n 0 w hpk
    obtain ⟨q, rfl⟩ := Int.eq_ofNat_of_zero_le w0
    have := HI.step hok h q (by omega) hc ht (nextFr pol (q : Int) n)
    rw [Int.toNat_natCast] at ih
    exact ih this
theorem tot_all {m : Int} : ∀ (s : List Int), (∀ x ∈ s, x ≤ m) → tot s = s.length * m → ∀ x ∈ s, x = m
  | [], _, _ => by simp
  | y :: s, h, e => by
    have h1 := tot_le m s (fun x hx => h x (by simp [hx]))
    have hy := h y (by simp)
    have e2 : (((y :: s).length : Nat) : Int) * m = (s.length : Int) * m + m := by rw [List.length_cons, Int.natCast_add, Int.add_mul]; simp
    rw [e2] at e
    simp only [tot] at e
    have ih := tot_all s (fun x hx => h x (by simp [hx])) (by omega)
    intro x hx
    rcases List.mem_cons.1 hx with rfl | hx
    · omega
    · exact ih x hx
/-- In the end: every warp has begun all instructions, in order, none earlier than alone. -/
theorem run_warps {l : List S45} {n : Nat} {pol : Int} (hok : lokB l = true) {F : List S49} (hv : Vs l n (List.replicate n b0) (List.replicate n 0) 0 0) (hr : Run l n pol (List.replicate n b0) (List.replicate n 0) [] 0 0 F) :
    F.length = n * l.length ∧ F.Pairwise (fun a b => a.f0 < b.f0) ∧ (∀ s ∈ F, 0 ≤ s.f0 ∧ s.f0 ≤ 10000) ∧ ∀ w : Nat, w < n → (wt (w : Int) F).length = l.length ∧ (∀ k : Nat, k < l.length → tmI l k ≤ rd (wt (w : Int) F) (k : Int)) ∧ (wt (w : Int) F).Pairwise (fun a b => a < b) := by
  obtain ⟨hl, B', nx', fr', t', h⟩ := run_inv hok hr (HI.start l n hv)
  have hall := tot_all nx' (fun x hx => (h.vs.nb x hx).2) (by rw [h.sum, h.vs.nl, hl]; simp)
  refine ⟨hl, h.rise, fun s hs => ⟨(h.lt s hs).1, (h.lt s hs).2.2⟩, fun w hw => ?_⟩
  have hx := hall _ (rd_mem nx' w (by have := h.vs.nl; omega))
  have hh := h.hist w hw
  have hlen : (wt (w : Int) F).length = l.length := by omega
  refine ⟨hlen, fun k hk => h.ge w hw k (by omega), ?_⟩
  unfold wt
  rw [List.pairwise_map]
  exact h.rise.filter _
/-- The warp that is always first loses nothing. -/
structure FI (l : List S45) (B : List (List Int)) (out : List S49) (t : Int) : Prop where
  eq : B.getD 0 [] = (stI l (wt 0 out).length).1
  le : (wt 0 out).length < l.length → t ≤ tmI l (wt 0 out).length
  h : ∀ k : Nat, k < (wt 0 out).length → rd (wt 0 out) (k : Int) = tmI l k
theorem pk_first {l : List S45} {B : List (List Int)} {nx : List Int} {n : Nat} {t : Int} (hn : 1 ≤ n) (hc : canW l B nx 0 t) : pk l B nx n 0 t n 0 = some 0 := by
  obtain ⟨m, rfl⟩ : ∃ m, n = m + 1 := ⟨n - 1, by omega⟩
  simp only [pk]
  rw [show ((0 : Int) + 0) % ((m + 1 : Nat) : Int) = 0 by simp, if_pos hc]
theorem first_late {l : List S45} {n : Nat} {B : List (List Int)} {nx : List Int} {out : List S49} {fr t : Int} (h : HI l n B nx out fr t) (hf : FI l B out t) (hc : ¬ canW l B nx 0 t) (hm : (wt 0 out).length < l.length) : t + 1 ≤ tmI l (wt 0 out).length := by
  have hn1 := h.vs.n1
  have hh := h.hist 0 (by omega)
  have hle := hf.le hm
  have hs := h.snd 0 (by omega)
  by_cases g : t + 1 ≤ tmI l (wt 0 out).length
  · exact g
  · exfalso
    apply hc
    refine ⟨by have e : rd nx ((0 : Nat) : Int) = rd nx 0 := rfl
               rw [← e, ← hh]; have e2 : wt ((0 : Nat) : Int) out = wt 0 out := rfl
               rw [e2]; omega, ?_⟩
    unfold rdyW bAt
    have e0 : (0 : Int).toNat = 0 := rfl
    have e : rd nx 0 = (((wt 0 out).length : Nat) : Int) := hh.symm
    rw [e0, hf.eq, e]
    have ht : tmI l (wt 0 out).length ≤ t := by omega
    unfold tmI itStep at ht
    exact ((le_mx _ _ _).1 ht).2
theorem run_first {l : List S45} {n : Nat} {pol : Int} (hok : lokB l = true) (hz : ∀ w : Int, nextFr pol w n = 0) {B : List (List Int)} {nx : List Int} {out : List S49} {fr t : Int} {F : List S49} (hr : Run l n pol B nx out fr t F) :
    HI l n B nx out fr t → fr = 0 → FI l B out t → ∀ k : Nat, k < (wt 0 F).length → rd (wt 0 F) (k : Int) = tmI l k := by
  induction hr with
  | done B nx out fr t ho => intro h _ hf; exact hf.h
  | idle B nx out fr t F ho ht hpk _ ih =>
    intro h h0 hf
    subst h0
    have hc : ¬ canW l B nx 0 t := fun hc => by rw [pk_first h.vs.n1 hc] at hpk; cases hpk
    exact ih h.tick rfl ⟨hf.eq, fun hm => first_late h hf hc hm, hf.h⟩
  | step B nx out fr t F w ho ht hpk _ ih =>
    intro h h0 hf
    subst h0
    have hn1 := h.vs.n1
    obtain ⟨w0, w1, hcan⟩ := pk_in l B nx n 0 t hn1 n 0 w hpk
    obtain ⟨q, rfl⟩ := Int.eq_ofNat_of_zero_le w0
    have hs := HI.step hok h q (by omega) hcan ht (nextFr pol (q : Int) n)
    rw [Int.toNat_natCast] at ih
    refine ih hs (hz _) ?_
    have hqB : q < B.length := by have := h.vs.Bl; omega
    by_cases e : q = 0
    · subst e
      have hh := h.hist 0 (by omega)
      have hr := HI.ready hok h 0 (by omega) hcan
      have hm : (wt 0 out).length < l.length := by have := hcan.1; have e : wt ((0 : Nat) : Int) out = wt 0 out := rfl; rw [e] at hh; omega
      have hle := hf.le hm
      have ht2 : tmI l (wt 0 out).length = t := by have e : wt ((0 : Nat) : Int) out = wt 0 out := rfl; rw [e] at hr; omega
      have ew : wt 0 (out ++ [⟨t, ((0 : Nat) : Int), rd nx ((0 : Nat) : Int)⟩]) = wt 0 out ++ [t] := by rw [wt_snoc, if_pos (show ((0 : Nat) : Int) = 0 from rfl)]
      refine ⟨?_, fun hm2 => ?_, fun k hk => ?_⟩
      · rw [getD_set B _ _ _ hqB, if_pos rfl, ew, List.length_append, List.length_singleton]
        have e1 : (stI l ((wt 0 out).length + 1)).1 = itBoard (stI l (wt 0 out).length).1 (rd_T45 l (((wt 0 out).length : Nat) : Int)) (tmI l (wt 0 out).length) := rfl
        have e2 : bAt B ((0 : Nat) : Int) = B.getD 0 [] := rfl
        have e3 : rd nx ((0 : Nat) : Int) = (((wt 0 out).length : Nat) : Int) := hh.symm
        rw [e1, e2, hf.eq, e3, ht2]
      · rw [ew, List.length_append, List.length_singleton]
        have := tmI_rise l (wt 0 out).length
        omega
      · rw [ew] at hk ⊢
        by_cases e2 : k < (wt 0 out).length
        · rw [rd_old _ _ k e2]; exact hf.h k e2
        · have e3 : k = (wt 0 out).length := by simp at hk; omega
          rw [e3, rd_new, ht2]
    · have hc : ¬ canW l B nx 0 t := fun hc => by
        rw [pk_first hn1 hc] at hpk
        have := Option.some.inj hpk
        omega
      have ew : wt 0 (out ++ [⟨t, (q : Int), rd nx (q : Int)⟩]) = wt 0 out := by rw [wt_snoc, if_neg (show ¬ (q : Int) = 0 by omega)]
      refine ⟨?_, fun hm => ?_, fun k hk => ?_⟩
      · rw [getD_set B _ _ _ hqB, if_neg (fun h => e h.symm), ew]; exact hf.eq
      · rw [ew] at hm ⊢; exact first_late h hf hc hm
      · rw [ew] at hk ⊢; exact hf.h k hk
theorem FI.start (l : List S45) (n : Nat) (hn : 1 ≤ n) : FI l (List.replicate n b0) [] 0 := by
  refine ⟨?_, fun _ => (tmI_bd l _).1, fun k hk => by simp [wt] at hk⟩
  obtain ⟨m, rfl⟩ : ∃ m, n = m + 1 := ⟨n - 1, by omega⟩
  rfl

end Go.Proofs.Ytopckcppmpmcnaa.Q
