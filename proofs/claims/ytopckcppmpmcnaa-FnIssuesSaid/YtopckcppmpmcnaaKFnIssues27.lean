/- The contract of spec.l36Issue: the warps' boards, each in a block of its own, and their places. -/
import Derived.Test.YtopckcppmpmcnaaKFnIssues26
namespace Go.Proofs.Ytopckcppmpmcnaa.Q
open Go.RowKit Go.Proofs.YtopckcppmpmcnaaW.PrintWords Go.Proofs.YtopckcppmpmcnaaW.PrintLast Go.Proofs.YtopckcppmpmcnaaW.PrintMore
set_option linter.unusedVariables false
set_option linter.unusedSimpArgs false

theorem Nums.C {W : World} {g : Nat} {l : List Int} (h : Nums W g l) (hl : l.length ≤ 1000000) : Kd.C (Kd.int .i64) W (some ⟨g, 0, none⟩) l.length l := by
  refine ⟨rfl, by omega, fun hn => ⟨⟨g, 0, none⟩, rfl, fun j p hj => ⟨[.int .i64 p], rfl, rfl, fun i u hu => ?_⟩⟩⟩
  have hi : i = 0 ∧ u = .int .i64 p := by
    cases i with
    | zero => simpa using hu.symm
    | succ i => simp at hu
  obtain ⟨rfl, rfl⟩ := hi
  have hlt : j < l.length := (List.getElem?_eq_some_iff.1 hj).1
  have e := blk_cell h j
  have e2 : (⟨g, 0, none⟩ : Addr).add (j * (Kd.int .i64).sz + 0) = ⟨g, j, none⟩ := by
    have : j * (Kd.int .i64).sz + 0 = j := by show j * 1 + 0 = j; omega
    rw [this]; unfold Addr.add; split <;> simp_all
  rw [e2, e]
  simp [hj]
theorem Nums.far {W : World} {g h o : Nat} {l : List Int} {v : Value} (hn : Nums W g l) (hne : g ≠ h) : Nums (W.setCell ⟨h, o, none⟩ v) g l := (Below.heap_setCell _ _ _ _ hne).trans hn
/-- The rows: k of them are made. -/
def rowCells (g0 n k : Nat) : Array Value := ((List.range n).map fun w => if w < k then Value.slice (some ⟨g0 + w, 0, none⟩) 4 4 else Value.slice none 0 0).toArray
theorem rowCells_at (g0 n k w : Nat) (h : w < n) : (rowCells g0 n k)[w]? = some (if w < k then Value.slice (some ⟨g0 + w, 0, none⟩) 4 4 else Value.slice none 0 0) := by
  simp [rowCells, h]
/-- The reference's warps: n boards in blocks from g0 on, n places in another block. -/
structure Sp (W : World) (gr g0 gn : Nat) (A0 : Option Addr) (c0 : Nat) (l0 : List S45) (B : List (List Int)) (nx : List Int) (n : Nat) : Prop where
  r : W.heap[gr]? = some (.cells (rowCells g0 n n) 30 (0, 0))
  b : ∀ w, w < n → Nums W (g0 + w) (B.getD w [])
  a : Nums W gn nx
  l : Kd.C k45 W A0 l0.length l0
  bl : ∀ w, w < n → (B.getD w []).length = 4
  Bl : B.length = n
  al : nx.length = n
  lt : gn < g0
theorem Sp.below {W W1 : World} {gr g0 gn : Nat} {A0 : Option Addr} {c0 : Nat} {l0 : List S45} {B : List (List Int)} {nx : List Int} {n : Nat} (h : Sp W gr g0 gn A0 c0 l0 B nx n) (hb : Below W.heap.size W W1) : Sp W1 gr g0 gn A0 c0 l0 B nx n :=
  ⟨(hb.block gr (blk_lt h.r)).trans h.r, fun w hw => (h.b w hw).below hb, h.a.below hb, Kd.C_below h.l hb, h.bl, h.Bl, h.al, h.lt⟩
theorem Sp.drew {W : World} {gr g0 gn : Nat} {A0 : Option Addr} {c0 : Nat} {l0 : List S45} {B : List (List Int)} {nx : List Int} {n : Nat} (h : Sp W gr g0 gn A0 c0 l0 B nx n) : Sp W.drew gr g0 gn A0 c0 l0 B nx n :=
  ⟨h.r, h.b, h.a, Kd.C_drew h.l, h.bl, h.Bl, h.al, h.lt⟩
theorem Sp.drewN {W : World} {gr g0 gn : Nat} {A0 : Option Addr} {c0 : Nat} {l0 : List S45} {B : List (List Int)} {nx : List Int} {n : Nat} (h : Sp W gr g0 gn A0 c0 l0 B nx n) (m : Nat) : Sp (W.drewN m) gr g0 gn A0 c0 l0 B nx n :=
  ⟨h.r, h.b, h.a, Kd.C_drewN h.l m, h.bl, h.Bl, h.al, h.lt⟩
theorem Sp.grown {W W1 : World} {gr g0 gn : Nat} {A0 : Option Addr} {c0 : Nat} {l0 : List S45} {B : List (List Int)} {nx : List Int} {n : Nat} {row : Option Nat} (h : Sp W gr g0 gn A0 c0 l0 B nx n) (hg : W.grownBy W1 row) (hr : some gr ≠ row) (hs : ∀ w, w < n → some (g0 + w) ≠ row) (hn : some gn ≠ row) (hc : Kd.C k45 W1 A0 l0.length l0) : Sp W1 gr g0 gn A0 c0 l0 B nx n :=
  ⟨(hg.block gr (blk_lt h.r) hr).trans h.r, fun w hw => (hg.block _ (blk_lt (h.b w hw)) (hs w hw)).trans (h.b w hw), (hg.block gn (blk_lt h.a) hn).trans h.a, hc, h.bl, h.Bl, h.al, h.lt⟩
theorem Sp.putRow {W : World} {gr g0 gn : Nat} {A0 : Option Addr} {c0 : Nat} {l0 : List S45} {B : List (List Int)} {nx : List Int} {n : Nat} (h : Sp W gr g0 gn A0 c0 l0 B nx n) (q o : Nat) (hq : q < n) (v : Int) (hc : Kd.C k45 (W.setCell ⟨g0 + q, o, none⟩ (.int .i64 v)) A0 l0.length l0) : Sp (W.setCell ⟨g0 + q, o, none⟩ (.int .i64 v)) gr g0 gn A0 c0 l0 (B.set q ((B.getD q []).set o v)) nx n := by
  refine ⟨(Below.heap_setCell _ _ _ _ (blk_neT h.r (show W.heap[g0 + q]? = some (.cells _ 3 (0, 0)) from h.b q hq) (by decide))).trans h.r, fun w hw => ?_, h.a.far (by have := h.lt; omega), hc, fun w hw => ?_, by simpa using h.Bl, h.al, h.lt⟩
  · rw [List.getD_eq_getElem?_getD, List.getElem?_set]
    by_cases e : q = w
    · subst e
      rw [if_pos rfl, if_pos (by rw [h.Bl]; exact hq), Option.getD_some]
      exact (h.b q hq).set o v
    · rw [if_neg e, ← List.getD_eq_getElem?_getD]
      exact (h.b w hw).far (by omega)
  · rw [List.getD_eq_getElem?_getD, List.getElem?_set]
    by_cases e : q = w
    · subst e
      rw [if_pos rfl, if_pos (by rw [h.Bl]; exact hq), Option.getD_some, List.length_set]
      exact h.bl q hq
    · rw [if_neg e, ← List.getD_eq_getElem?_getD]
      exact h.bl w hw
theorem Sp.appended {W W1 : World} {gr g0 gn : Nat} {A0 : Option Addr} {c0 : Nat} {l0 : List S45} {B : List (List Int)} {nx : List Int} {n base : Nat} {v : Value} {out : List S49} (h : Sp W gr g0 gn A0 c0 l0 B nx n) (ho : Kd.R k49 49 W base (fun _ => True) v out) (hg : W.grownBy W1 v.ownBlock) (hc : Kd.C k45 W1 A0 l0.length l0) : Sp W1 gr g0 gn A0 c0 l0 B nx n :=
  h.grown hg (Kd.R_ne ho h.r (by decide)) (fun w hw => Kd.R_ne ho (show W.heap[g0 + w]? = some (.cells _ 3 (0, 0)) from h.b w hw) (by decide)) (Kd.R_ne ho (show W.heap[gn]? = some (.cells _ 3 (0, 0)) from h.a) (by decide)) hc
theorem cell_othr (W : World) (g o h i : Nat) (v : Value) (hne : h ≠ g) : (W.setCell ⟨g, o, none⟩ v).cell? ⟨h, i, none⟩ = W.cell? ⟨h, i, none⟩ := World.cell?_of_block (w := W) (Below.heap_setCell W ⟨g, o, none⟩ v h hne)
/-- What the store of a ready time reads. -/
def S22 (gr g0 qn gi : Nat) (f0 f1 f2 f3 : Int) (w' : World) : Prop := w'.cell? ⟨gr, qn, none⟩ = some (.slice (some ⟨g0 + qn, 0, none⟩) 4 4) ∧ w'.cell? ⟨gi, 0, none⟩ = some (.int .i64 f0) ∧ w'.cell? ⟨gi, 1, none⟩ = some (.int .i64 f1) ∧ w'.cell? ⟨gi, 2, none⟩ = some (.int .i64 f2) ∧ w'.cell? ⟨gi, 3, none⟩ = some (.int .i64 f3)
theorem S22.far {gr g0 qn gi : Nat} {f0 f1 f2 f3 : Int} {W : World} (h : S22 gr g0 qn gi f0 f1 f2 f3 W) (g o : Nat) (v : Value) (h1 : gr ≠ g) (h2 : gi ≠ g) : S22 gr g0 qn gi f0 f1 f2 f3 (W.setCell ⟨g, o, none⟩ v) :=
  ⟨(cell_othr W g o gr qn v h1).trans h.1, (cell_othr W g o gi 0 v h2).trans h.2.1, (cell_othr W g o gi 1 v h2).trans h.2.2.1, (cell_othr W g o gi 2 v h2).trans h.2.2.2.1, (cell_othr W g o gi 3 v h2).trans h.2.2.2.2⟩
theorem S22.of {W : World} {gr g0 gn qn gi : Nat} {A0 : Option Addr} {c0 : Nat} {l0 : List S45} {B : List (List Int)} {nx : List Int} {n : Nat} {f0 f1 f2 f3 : Int} (h : Sp W gr g0 gn A0 c0 l0 B nx n) (hq : qn < n) (hb : W.heap[gi]? = some (.cells #[.int .i64 f0, .int .i64 f1, .int .i64 f2, .int .i64 f3] 45 (0, 0))) : S22 gr g0 qn gi f0 f1 f2 f3 W := by
  have hx := blk_cell h.r qn
  rw [rowCells_at g0 n n qn hq, if_pos hq] at hx
  exact ⟨hx, blk_cell hb 0, blk_cell hb 1, blk_cell hb 2, blk_cell hb 3⟩
/-- The warp that is looked at. -/
def wOf (pol fr k : Int) (n : Nat) : Int := if pol = 1 then (fr + k) % n else k
def spec_can (F : Nat) (x : S45) (b : List Int) (t : Int) : Option Bool := spec_l36Can.f F x.f0 x.f1 x.f2 x.f3 b t
def spec_put (x : S45) (b : List Int) (t : Int) : Option (List Int) := (spec_WritesReg.f x.f0 x.f1 x.f2 x.f3).bind fun r => if r ≥ 0 then (if r < 4 then (spec_LatencyOf.f x.f0 x.f1 x.f2 x.f3).bind fun d => some (b.set r.toNat (wrap64 (t + d))) else none) else some b
/-- k = -1: the head of the outer loop. -/
def spec_l36Issue.l0 : Nat → List S45 → List (List Int) → List Int → Nat → Int → List S49 → Int → Int → Int → Option (List S49)
  | 0, _, _, _, _, _, _, _, _, _ => none
  | F + 1, l, B, nx, n, pol, out, fr, t, k => if k < 0 then (if (out.length : Int) < (n : Int) * (l.length : Int) then spec_l36Issue.l0 F l B nx n pol out fr t 0 else some out)
    else if k < (n : Int) then (if rd nx (wOf pol fr k n) = (l.length : Int) then spec_l36Issue.l0 F l B nx n pol out fr t (k + 1)
      else (if 0 ≤ rd nx (wOf pol fr k n) then (if rd nx (wOf pol fr k n) < (l.length : Int) then
        ((spec_can F (rd_T45 l (rd nx (wOf pol fr k n))) (B.getD ((wOf pol fr k n)).toNat []) t).bind fun ok => if ok = true then
          (if out.length < 1099511627776 then ((spec_put (rd_T45 l (rd nx (wOf pol fr k n))) (B.getD ((wOf pol fr k n)).toNat []) t).bind fun b2 =>
            spec_l36Issue.l0 F l (B.set ((wOf pol fr k n)).toNat b2) (nx.set ((wOf pol fr k n)).toNat (rd nx (wOf pol fr k n) + 1)) n pol (out ++ [⟨t, (wOf pol fr k n), rd nx (wOf pol fr k n)⟩]) (((wOf pol fr k n) + 1) % n) (wrap64 (t + 1)) (-1)) else none)
          else spec_l36Issue.l0 F l B nx n pol out fr t (k + 1)) else none) else none))
    else spec_l36Issue.l0 F l B nx n pol out fr (wrap64 (t + 1)) (-1)
def spec_l36Issue.f (k : Nat) (l0 : List S45) (a1 a2 : Int) : Option (List S49) :=
  if 1 ≤ a1 ∧ a1 ≤ 8 ∧ l0.length ≤ 32 then spec_l36Issue.l0 k l0 (List.replicate a1.toNat [0, 0, 0, 0]) (List.replicate a1.toNat 0) a1.toNat a2 [] 0 0 (-1) else none
end Go.Proofs.Ytopckcppmpmcnaa.Q
