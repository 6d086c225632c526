/- Schedules of many warps: what both IssueAll functions come to. -/
import Derived.Test.YtopckcppmpmcnaaKFnExactResidentFor33
namespace Go.Proofs.Ytopckcppmpmcnaa.Q
open Go.RowKit Go.Proofs.YtopckcppmpmcnaaW.PrintWords Go.Proofs.YtopckcppmpmcnaaW.PrintLast Go.Proofs.YtopckcppmpmcnaaW.PrintMore
set_option linter.unusedVariables false
set_option linter.unusedSimpArgs false

def bAt (B : List (List Int)) (w : Int) : List Int := B.getD w.toNat []
def rdyW (l : List S45) (B : List (List Int)) (nx : List Int) (w : Int) : Int := fmax (bAt B w) 0 (usedL (rd_T45 l (rd nx w)))
/-- Whether a warp can begin an instruction in cycle t. -/
def canW (l : List S45) (B : List (List Int)) (nx : List Int) (w t : Int) : Prop := rd nx w < (l.length : Int) ∧ rdyW l B nx w ≤ t
instance (l : List S45) (B : List (List Int)) (nx : List Int) (w t : Int) : Decidable (canW l B nx w t) := by unfold canW; exact inferInstance
/-- The first warp, of d ones from k behind fr on, that can. -/
def pk (l : List S45) (B : List (List Int)) (nx : List Int) (n : Nat) (fr t : Int) : Nat → Int → Option Int
  | 0, _ => none
  | d + 1, k => if canW l B nx ((fr + k) % n) t then some ((fr + k) % n) else pk l B nx n fr t d (k + 1)
def nextFr (pol w : Int) (n : Nat) : Int := if pol = 1 then (w + 1) % n else 0
/-- A schedule, from a state on. -/
inductive Run (l : List S45) (n : Nat) (pol : Int) : List (List Int) → List Int → List S49 → Int → Int → List S49 → Prop
  | done (B : List (List Int)) (nx : List Int) (out : List S49) (fr t : Int) : out.length = n * l.length → Run l n pol B nx out fr t out
  | idle (B : List (List Int)) (nx : List Int) (out : List S49) (fr t : Int) (F : List S49) : out.length < n * l.length → t ≤ 10000 → pk l B nx n fr t n 0 = none → Run l n pol B nx out fr (t + 1) F → Run l n pol B nx out fr t F
  | step (B : List (List Int)) (nx : List Int) (out : List S49) (fr t : Int) (F : List S49) (w : Int) : out.length < n * l.length → t ≤ 10000 → pk l B nx n fr t n 0 = some w → Run l n pol (B.set w.toNat (itBoard (bAt B w) (rd_T45 l (rd nx w)) t)) (nx.set w.toNat (rd nx w + 1)) (out ++ [⟨t, w, rd nx w⟩]) (nextFr pol w n) (t + 1) F → Run l n pol B nx out fr t F
/-- What holds of a state all the time. -/
structure Vs (l : List S45) (n : Nat) (B : List (List Int)) (nx : List Int) (fr t : Int) : Prop where
  n1 : 1 ≤ n
  n8 : n ≤ 8
  Bl : B.length = n
  bl : ∀ w, w < n → (B.getD w []).length = 4
  bn : ∀ w, w < n → ∀ y ∈ B.getD w [], 0 ≤ y
  nl : nx.length = n
  nb : ∀ x ∈ nx, 0 ≤ x ∧ x ≤ (l.length : Int)
  t0 : 0 ≤ t
theorem pk_in (l : List S45) (B : List (List Int)) (nx : List Int) (n : Nat) (fr t : Int) (hn : 1 ≤ n) : ∀ d k w, pk l B nx n fr t d k = some w → 0 ≤ w ∧ w < (n : Int) ∧ canW l B nx w t
  | 0, k, w, h => by simp [pk] at h
  | d + 1, k, w, h => by
    simp only [pk] at h
    split at h
    · rename_i hc
      obtain rfl := Option.some.inj h
      exact ⟨Int.emod_nonneg _ (by omega), Int.emod_lt_of_pos _ (by omega), hc⟩
    · exact pk_in l B nx n fr t hn d (k + 1) w h
theorem Vs.at {l : List S45} {n : Nat} {B : List (List Int)} {nx : List Int} {fr t : Int} (h : Vs l n B nx fr t) (w : Int) (h0 : 0 ≤ w) (h1 : w < (n : Int)) : 0 ≤ rd nx w ∧ rd nx w ≤ (l.length : Int) := by
  obtain ⟨q, rfl⟩ := Int.eq_ofNat_of_zero_le h0
  exact h.nb _ (rd_mem nx q (by have := h.nl; omega))
theorem itBoard_len (b : List Int) (x : S45) (t : Int) : (itBoard b x t).length = b.length := by unfold itBoard; split <;> simp
theorem itBoard_nn {b : List Int} (hb : ∀ y ∈ b, 0 ≤ y) (x : S45) {t : Int} (ht : 0 ≤ t) : ∀ y ∈ itBoard b x t, 0 ≤ y := by
  intro y hy
  have := lat_bd x
  unfold itBoard at hy
  split at hy
  · rcases List.mem_or_eq_of_mem_set hy with h | h
    · exact hb y h
    · omega
  · exact hb y hy
theorem getD_set (B : List (List Int)) (q w : Nat) (v : List Int) (hq : q < B.length) : (B.set q v).getD w [] = if w = q then v else B.getD w [] := by
  simp only [List.getD_eq_getElem?_getD, List.getElem?_set]
  by_cases e : q = w
  · subst e; simp [hq]
  · rw [if_neg e, if_neg (fun h => e h.symm)]
theorem Vs.step {l : List S45} {n : Nat} {B : List (List Int)} {nx : List Int} {fr t : Int} (h : Vs l n B nx fr t) (w : Int) (h0 : 0 ≤ w) (h1 : w < (n : Int)) (hc : rd nx w < (l.length : Int)) (fr2 : Int) :
    Vs l n (B.set w.toNat (itBoard (bAt B w) (rd_T45 l (rd nx w)) t)) (nx.set w.toNat (rd nx w + 1)) fr2 (t + 1) := by
  have hat := h.at w h0 h1
  have hq : w.toNat < B.length := by have := h.Bl; omega
  have hn := h.n1
  refine ⟨h.n1, h.n8, by simpa using h.Bl, fun v hv => ?_, fun v hv => ?_, by simpa using h.nl, fun x hx => ?_, by have := h.t0; omega⟩
  · rw [getD_set B _ _ _ hq]
    split
    · rw [itBoard_len]; exact h.bl _ (by have := h.Bl; omega)
    · exact h.bl v hv
  · rw [getD_set B _ _ _ hq]
    split
    · exact itBoard_nn (h.bn _ (by have := h.Bl; omega)) _ h.t0
    · exact h.bn v hv
  · rcases List.mem_or_eq_of_mem_set hx with h2 | h2
    · exact h.nb x h2
    · omega
theorem Vs.tick {l : List S45} {n : Nat} {B : List (List Int)} {nx : List Int} {fr t : Int} (h : Vs l n B nx fr t) : Vs l n B nx fr (t + 1) :=
  ⟨h.n1, h.n8, h.Bl, h.bl, h.bn, h.nl, h.nb, by have := h.t0; omega⟩
/-- None can: no warp of those looked at can. -/
theorem pk_none (l : List S45) (B : List (List Int)) (nx : List Int) (n : Nat) (fr t : Int) : ∀ d k, pk l B nx n fr t d k = none → ∀ j : Nat, j < d → ¬ canW l B nx ((fr + (k + j)) % n) t
  | 0, k, _, j, hj => by omega
  | d + 1, k, h, j, hj => by
    simp only [pk] at h
    split at h
    · cases h
    · rename_i hc
      cases j with
      | zero => simpa using hc
      | succ j =>
        have := pk_none l B nx n fr t d (k + 1) h j (by omega)
        have e : k + 1 + (j : Int) = k + ((j + 1 : Nat) : Int) := by omega
        rw [e] at this
        exact this
theorem pk_none_all {l : List S45} {B : List (List Int)} {nx : List Int} {n : Nat} {fr t : Int} (hn : 1 ≤ n) (h : pk l B nx n fr t n 0 = none) (w : Int) (h0 : 0 ≤ w) (h1 : w < (n : Int)) : ¬ canW l B nx w t := by
  have e0 : 0 ≤ (w - fr) % (n : Int) := Int.emod_nonneg _ (by omega)
  have e1 : (w - fr) % (n : Int) < n := Int.emod_lt_of_pos _ (by omega)
  obtain ⟨j, hj⟩ := Int.eq_ofNat_of_zero_le e0
  have := pk_none l B nx n fr t n 0 h j (by omega)
  have e : (fr + (0 + (j : Int))) % (n : Int) = w := by
    rw [Int.zero_add, ← hj, Int.add_emod, Int.emod_emod_of_dvd _ (Int.dvd_refl _), ← Int.add_emod, show fr + (w - fr) = w by omega]
    exact Int.emod_eq_of_lt h0 h1
  rw [e] at this
  exact this
/-- Every schedule ends. -/
theorem run_ends (l : List S45) (n : Nat) (pol : Int) (hl : l.length ≤ 32) : ∀ (R m : Nat) (B : List (List Int)) (nx : List Int) (out : List S49) (fr t M : Int), Vs l n B nx fr t → tot nx = (out.length : Int) → out.length ≤ n * l.length → n * l.length - out.length = R → (M - t).toNat = m → 0 ≤ M → (∀ w, w < n → ∀ y ∈ B.getD w [], y ≤ M) → M ≤ 7 * (out.length : Int) → t ≤ 7 * (out.length : Int) → ∃ F, Run l n pol B nx out fr t F := by
  intro R
  induction R with
  | zero =>
    intro m B nx out fr t M hv ht hle hR hm hM hB h7 ht7
    exact ⟨out, Run.done B nx out fr t (by omega)⟩
  | succ R ihR =>
    intro m
    induction m with
    | zero =>
      intro B nx out fr t M hv ht hle hR hm hM hB h7 ht7
      have hn1 := hv.n1
      have hnl : n * l.length ≤ 8 * 32 := Nat.mul_le_mul hv.n8 hl
      cases hp : pk l B nx n fr t n 0 with
      | none =>
        exfalso
        have hall : ∀ x ∈ nx, (l.length : Int) ≤ x := by
          intro x hx
          obtain ⟨q, hq, rfl⟩ := mem_rd hx
          have hc := pk_none_all hn1 hp (q : Int) (by omega) (by have := hv.nl; omega)
          unfold canW at hc
          have hr : rdyW l B nx (q : Int) ≤ t := by
            unfold rdyW
            rw [fmax_le]
            refine ⟨hv.t0, fun y _ => ?_⟩
            have hb := hB q (by have := hv.nl; omega)
            unfold bAt Go.Proofs.YtopckcppmpmcnaaW.PrintWords.rd
            have eg : (B.getD q []).getD y.toNat 0 = ((B.getD q [])[y.toNat]?).getD 0 := List.getD_eq_getElem?_getD ..
            rw [Int.toNat_natCast, eg]
            cases hz : (B.getD q [])[y.toNat]? with
            | none => simpa using hv.t0
            | some v => have := hb v (List.mem_of_getElem? hz); simp; omega
          by_cases h2 : rd nx (q : Int) < (l.length : Int)
          · exact absurd ⟨h2, hr⟩ hc
          · omega
        have h3 := tot_ge (l.length : Int) nx hall
        rw [hv.nl, ht] at h3
        have e : ((n * l.length : Nat) : Int) = (n : Int) * (l.length : Int) := by simp
        omega
      | some w =>
        obtain ⟨w0, w1, hc⟩ := pk_in l B nx n fr t hn1 n 0 w hp
        have hlat := lat_bd (rd_T45 l (rd nx w))
        have hwn : w.toNat < nx.length := by have := hv.nl; omega
        have hwi : ((w.toNat : Nat) : Int) = w := by omega
        have hts := tot_set nx w.toNat (rd nx w + 1) hwn
        rw [hwi] at hts
        obtain ⟨F, hF⟩ := ihR (mx M (t + 6) - (t + 1)).toNat (B.set w.toNat (itBoard (bAt B w) (rd_T45 l (rd nx w)) t)) (nx.set w.toNat (rd nx w + 1)) (out ++ [⟨t, w, rd nx w⟩]) (nextFr pol w n) (t + 1) (mx M (t + 6)) (hv.step w w0 w1 hc.1 _) (by rw [hts, ht]; simp; omega) (by simp; omega) (by simp; omega) rfl
          (by have := le_mx1 M (t + 6); omega) (fun v hvn y hy => by
            rw [getD_set B _ _ _ (by have := hv.Bl; omega)] at hy
            have k1 := le_mx1 M (t + 6)
            have k2 := le_mx2 M (t + 6)
            split at hy
            · unfold itBoard at hy
              split at hy
              · rcases List.mem_or_eq_of_mem_set hy with h | h
                · have := hB w.toNat (by have := hv.nl; omega) y h; omega
                · omega
              · have := hB w.toNat (by have := hv.nl; omega) y hy; omega
            · have := hB v hvn y hy; omega)
          (by rw [le_mx]; simp; omega) (by simp; omega)
        exact ⟨F, Run.step B nx out fr t F w (by omega) (by omega) hp hF⟩
    | succ m ihm =>
      intro B nx out fr t M hv ht hle hR hm hM hB h7 ht7
      have hn1 := hv.n1
      have hnl : n * l.length ≤ 8 * 32 := Nat.mul_le_mul hv.n8 hl
      cases hp : pk l B nx n fr t n 0 with
      | none =>
        obtain ⟨F, hF⟩ := ihm B nx out fr (t + 1) M hv.tick ht hle hR (by omega) hM hB h7 (by omega)
        exact ⟨F, Run.idle B nx out fr t F (by omega) (by omega) hp hF⟩
      | some w =>
        obtain ⟨w0, w1, hc⟩ := pk_in l B nx n fr t hn1 n 0 w hp
        have hlat := lat_bd (rd_T45 l (rd nx w))
        have hwn : w.toNat < nx.length := by have := hv.nl; omega
        have hwi : ((w.toNat : Nat) : Int) = w := by omega
        have hts := tot_set nx w.toNat (rd nx w + 1) hwn
        rw [hwi] at hts
        obtain ⟨F, hF⟩ := ihR (mx M (t + 6) - (t + 1)).toNat (B.set w.toNat (itBoard (bAt B w) (rd_T45 l (rd nx w)) t)) (nx.set w.toNat (rd nx w + 1)) (out ++ [⟨t, w, rd nx w⟩]) (nextFr pol w n) (t + 1) (mx M (t + 6)) (hv.step w w0 w1 hc.1 _) (by rw [hts, ht]; simp; omega) (by simp; omega) (by simp; omega) rfl
          (by have := le_mx1 M (t + 6); omega) (fun v hvn y hy => by
            rw [getD_set B _ _ _ (by have := hv.Bl; omega)] at hy
            have k1 := le_mx1 M (t + 6)
            have k2 := le_mx2 M (t + 6)
            split at hy
            · unfold itBoard at hy
              split at hy
              · rcases List.mem_or_eq_of_mem_set hy with h | h
                · have := hB w.toNat (by have := hv.nl; omega) y h; omega
                · omega
              · have := hB w.toNat (by have := hv.nl; omega) y hy; omega
            · have := hB v hvn y hy; omega)
          (by rw [le_mx]; simp; omega) (by simp; omega)
        exact ⟨F, Run.step B nx out fr t F w (by omega) (by omega) hp hF⟩

end Go.Proofs.Ytopckcppmpmcnaa.Q
