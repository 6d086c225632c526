/- The contract of spec.l36Issue: the warps' boards, each in a block of its own, and their places. -/
import Derived.Test.YtopckcppmpmcnaaKFnExactResidentFor15
namespace Go.Proofs.Ytopckcppmpmcnaa.Q
open Go.RowKit Go.Proofs.YtopckcppmpmcnaaW.PrintWords Go.Proofs.YtopckcppmpmcnaaW.PrintLast Go.Proofs.YtopckcppmpmcnaaW.PrintMore
set_option linter.unusedVariables false
set_option linter.unusedSimpArgs false

theorem Nums.C {W : World} {g : Nat} {l : List Int} (h : Nums W g l) (hl : l.length ≤ 1000000) : Kd.C (Kd.int .i64) W (some ⟨g, 0, none⟩) l.length l := by
  refine ⟨rfl, by omega, fun hn => ⟨⟨g, 0, none⟩, rfl, fun j p hj => ⟨[.int .i64 p], rfl, rfl, fun i u hu => ?_⟩⟩⟩
  have hi : i = 0 ∧ u = .int .i64 p := by
    cases i with
    | zero => simpa using hu.symm
    | succ i => simp at hu
  obtain ⟨rfl, rfl⟩ := hi
  have hlt : j < l.length := (List.getElem?_eq_some_iff.1 hj).1
  have e := blk_cell h j
  have e2 : (⟨g, 0, none⟩ : Addr).add (j * (Kd.int .i64).sz + 0) = ⟨g, j, none⟩ := by
    have : j * (Kd.int .i64).sz + 0 = j := by show j * 1 + 0 = j; omega
    rw [this]; unfold Addr.add; split <;> simp_all
  rw [e2, e]
  simp [hj]
theorem Nums.far {W : World} {g h o : Nat} {l : List Int} {v : Value} (hn : Nums W g l) (hne : g ≠ h) : Nums (W.setCell ⟨h, o, none⟩ v) g l := (Below.heap_setCell _ _ _ _ hne).trans hn
/-- The rows: k of them are made. -/
def rowCells (g0 n k : Nat) : Array Value := ((List.range n).map fun w => if w < k then Value.slice (some ⟨g0 + w, 0, none⟩) 4 4 else Value.slice none 0 0).toArray
theorem rowCells_at (g0 n k w : Nat) (h : w < n) : (rowCells g0 n k)[w]? = some (if w < k then Value.slice (some ⟨g0 + w, 0, none⟩) 4 4 else Value.slice none 0 0) := by
  simp [rowCells, h]
theorem rowCells_zero (g0 n : Nat) : rowCells g0 n 0 = Array.replicate n (Value.slice none 0 0) := by
  refine Array.ext (by simp [rowCells]) fun i h1 h2 => ?_
  simp [rowCells]
theorem rowCells_set (g0 n k : Nat) (h : k < n) : (rowCells g0 n k).setIfInBounds k (Value.slice (some ⟨g0 + k, 0, none⟩) 4 4) = rowCells g0 n (k + 1) := by
  refine Array.ext (by simp [rowCells]) fun i h1 h2 => ?_
  simp only [rowCells, Array.size_setIfInBounds, List.size_toArray, List.length_map, List.length_range] at h1 h2
  rw [Array.getElem_setIfInBounds]
  by_cases e : k = i
  · subst e; simp [rowCells]
  · rw [if_neg e]
    have e2 : (i < k) = (i < k + 1) := by apply propext; omega
    simp only [rowCells, List.getElem_toArray, List.getElem_map, List.getElem_range, e2]
  · simpa [rowCells] using h2
/-- The reference's warps: n boards in blocks from g0 on, n places in another block. -/
structure Sp (W : World) (gr g0 gn : Nat) (A0 : Option Addr) (c0 : Nat) (l0 : List S45) (B : List (List Int)) (nx : List Int) (n : Nat) : Prop where
  r : W.heap[gr]? = some (.cells (rowCells g0 n n) 30 (0, 0))
  b : ∀ w, w < n → Nums W (g0 + w) (B.getD w [])
  a : Nums W gn nx
  l : Kd.C k45 W A0 l0.length l0
  bl : ∀ w, w < n → (B.getD w []).length = 4
  Bl : B.length = n
  al : nx.length = n
  lt : gn < g0
theorem Sp.below {W W1 : World} {gr g0 gn : Nat} {A0 : Option Addr} {c0 : Nat} {l0 : List S45} {B : List (List Int)} {nx : List Int} {n : Nat} (h : Sp W gr g0 gn A0 c0 l0 B nx n) (hb : Below W.heap.size W W1) : Sp W1 gr g0 gn A0 c0 l0 B nx n :=
  ⟨(hb.block gr (blk_lt h.r)).trans h.r, fun w hw => (h.b w hw).below hb, h.a.below hb, Kd.C_below h.l hb, h.bl, h.Bl, h.al, h.lt⟩
theorem Sp.drew {W : World} {gr g0 gn : Nat} {A0 : Option Addr} {c0 : Nat} {l0 : List S45} {B : List (List Int)} {nx : List Int} {n : Nat} (h : Sp W gr g0 gn A0 c0 l0 B nx n) : Sp W.drew gr g0 gn A0 c0 l0 B nx n :=
  ⟨h.r, h.b, h.a, Kd.C_drew h.l, h.bl, h.Bl, h.al, h.lt⟩
theorem Sp.drewN {W : World} {gr g0 gn : Nat} {A0 : Option Addr} {c0 : Nat} {l0 : List S45} {B : List (List Int)} {nx : List Int} {n : Nat} (h : Sp W gr g0 gn A0 c0 l0 B nx n) (m : Nat) : Sp (W.drewN m) gr g0 gn A0 c0 l0 B nx n :=
  ⟨h.r, h.b, h.a, Kd.C_drewN h.l m, h.bl, h.Bl, h.al, h.lt⟩
theorem Sp.grown {W W1 : World} {gr g0 gn : Nat} {A0 : Option Addr} {c0 : Nat} {l0 : List S45} {B : List (List Int)} {nx : List Int} {n : Nat} {row : Option Nat} (h : Sp W gr g0 gn A0 c0 l0 B nx n) (hg : W.grownBy W1 row) (hr : some gr ≠ row) (hs : ∀ w, w < n → some (g0 + w) ≠ row) (hn : some gn ≠ row) (hc : Kd.C k45 W1 A0 l0.length l0) : Sp W1 gr g0 gn A0 c0 l0 B nx n :=
  ⟨(hg.block gr (blk_lt h.r) hr).trans h.r, fun w hw => (hg.block _ (blk_lt (h.b w hw)) (hs w hw)).trans (h.b w hw), (hg.block gn (blk_lt h.a) hn).trans h.a, hc, h.bl, h.Bl, h.al, h.lt⟩
theorem Sp.putNext {W : World} {gr g0 gn : Nat} {A0 : Option Addr} {c0 : Nat} {l0 : List S45} {B : List (List Int)} {nx : List Int} {n : Nat} (h : Sp W gr g0 gn A0 c0 l0 B nx n) (o : Nat) (v : Int) (hc : Kd.C k45 (W.setCell ⟨gn, o, none⟩ (.int .i64 v)) A0 l0.length l0) : Sp (W.setCell ⟨gn, o, none⟩ (.int .i64 v)) gr g0 gn A0 c0 l0 B (nx.set o v) n :=
  ⟨(Below.heap_setCell _ _ _ _ (blk_neT h.r (show W.heap[gn]? = some (.cells _ 3 (0, 0)) from h.a) (by decide))).trans h.r, fun w hw => (h.b w hw).far (by have := h.lt; omega), h.a.set o v, hc, h.bl, h.Bl, by simpa using h.al, h.lt⟩
theorem Sp.putRow {W : World} {gr g0 gn : Nat} {A0 : Option Addr} {c0 : Nat} {l0 : List S45} {B : List (List Int)} {nx : List Int} {n : Nat} (h : Sp W gr g0 gn A0 c0 l0 B nx n) (q o : Nat) (hq : q < n) (v : Int) (hc : Kd.C k45 (W.setCell ⟨g0 + q, o, none⟩ (.int .i64 v)) A0 l0.length l0) : Sp (W.setCell ⟨g0 + q, o, none⟩ (.int .i64 v)) gr g0 gn A0 c0 l0 (B.set q ((B.getD q []).set o v)) nx n := by
  refine ⟨(Below.heap_setCell _ _ _ _ (blk_neT h.r (show W.heap[g0 + q]? = some (.cells _ 3 (0, 0)) from h.b q hq) (by decide))).trans h.r, fun w hw => ?_, h.a.far (by have := h.lt; omega), hc, fun w hw => ?_, by simpa using h.Bl, h.al, h.lt⟩
  · rw [List.getD_eq_getElem?_getD, List.getElem?_set]
    by_cases e : q = w
    · subst e
      rw [if_pos rfl, if_pos (by rw [h.Bl]; exact hq), Option.getD_some]
      exact (h.b q hq).set o v
    · rw [if_neg e, ← List.getD_eq_getElem?_getD]
      exact (h.b w hw).far (by omega)
  · rw [List.getD_eq_getElem?_getD, List.getElem?_set]
    by_cases e : q = w
    · subst e
      rw [if_pos rfl, if_pos (by rw [h.Bl]; exact hq), Option.getD_some, List.length_set]
      exact h.bl q hq
    · rw [if_neg e, ← List.getD_eq_getElem?_getD]
      exact h.bl w hw
theorem Sp.boxed {W W1 : World} {gr g0 gn : Nat} {A0 : Option Addr} {c0 : Nat} {l0 : List S45} {B : List (List Int)} {nx : List Int} {n : Nat} {g t : Nat} {cells : Array Value} (h : Sp W gr g0 gn A0 c0 l0 B nx n) (hb : W.heap[g]? = some (.cells cells t (0, 0))) (t1 : 30 ≠ t) (t2 : 3 ≠ t) (hg : W.grownBy W1 (some g)) (hc : Kd.C k45 W1 A0 l0.length l0) : Sp W1 gr g0 gn A0 c0 l0 B nx n :=
  h.grown hg (fun e => blk_neT h.r hb t1 (by simpa using e)) (fun w hw e => blk_neT (show W.heap[g0 + w]? = some (.cells _ 3 (0, 0)) from h.b w hw) hb t2 (by simpa using e)) (fun e => blk_neT (show W.heap[gn]? = some (.cells _ 3 (0, 0)) from h.a) hb t2 (by simpa using e)) hc
theorem Sp.appended {W W1 : World} {gr g0 gn : Nat} {A0 : Option Addr} {c0 : Nat} {l0 : List S45} {B : List (List Int)} {nx : List Int} {n base : Nat} {v : Value} {out : List S49} (h : Sp W gr g0 gn A0 c0 l0 B nx n) (ho : Kd.R k49 49 W base (fun _ => True) v out) (hg : W.grownBy W1 v.ownBlock) (hc : Kd.C k45 W1 A0 l0.length l0) : Sp W1 gr g0 gn A0 c0 l0 B nx n :=
  h.grown hg (Kd.R_ne ho h.r (by decide)) (fun w hw => Kd.R_ne ho (show W.heap[g0 + w]? = some (.cells _ 3 (0, 0)) from h.b w hw) (by decide)) (Kd.R_ne ho (show W.heap[gn]? = some (.cells _ 3 (0, 0)) from h.a) (by decide)) hc
theorem set_same (B : List (List Int)) (q : Nat) : B.set q (B.getD q []) = B := by
  apply List.ext_getElem? 
  intro i
  rw [List.getElem?_set]
  by_cases e : q = i
  · subst e
    rw [if_pos rfl]
    split
    · rename_i h; simp [h]
    · rename_i h; rw [List.getElem?_eq_none (by omega)]
  · rw [if_neg e]
theorem cell_othr (W : World) (g o h i : Nat) (v : Value) (hne : h ≠ g) : (W.setCell ⟨g, o, none⟩ v).cell? ⟨h, i, none⟩ = W.cell? ⟨h, i, none⟩ := World.cell?_of_block (w := W) (Below.heap_setCell W ⟨g, o, none⟩ v h hne)
/-- What the store of a ready time reads. -/
def S22 (gr g0 qn gi : Nat) (f0 f1 f2 f3 : Int) (w' : World) : Prop := w'.cell? ⟨gr, qn, none⟩ = some (.slice (some ⟨g0 + qn, 0, none⟩) 4 4) ∧ w'.cell? ⟨gi, 0, none⟩ = some (.int .i64 f0) ∧ w'.cell? ⟨gi, 1, none⟩ = some (.int .i64 f1) ∧ w'.cell? ⟨gi, 2, none⟩ = some (.int .i64 f2) ∧ w'.cell? ⟨gi, 3, none⟩ = some (.int .i64 f3)
theorem S22.far {gr g0 qn gi : Nat} {f0 f1 f2 f3 : Int} {W : World} (h : S22 gr g0 qn gi f0 f1 f2 f3 W) (g o : Nat) (v : Value) (h1 : gr ≠ g) (h2 : gi ≠ g) : S22 gr g0 qn gi f0 f1 f2 f3 (W.setCell ⟨g, o, none⟩ v) :=
  ⟨(cell_othr W g o gr qn v h1).trans h.1, (cell_othr W g o gi 0 v h2).trans h.2.1, (cell_othr W g o gi 1 v h2).trans h.2.2.1, (cell_othr W g o gi 2 v h2).trans h.2.2.2.1, (cell_othr W g o gi 3 v h2).trans h.2.2.2.2⟩
theorem S22.of {W : World} {gr g0 gn qn gi : Nat} {A0 : Option Addr} {c0 : Nat} {l0 : List S45} {B : List (List Int)} {nx : List Int} {n : Nat} {f0 f1 f2 f3 : Int} (h : Sp W gr g0 gn A0 c0 l0 B nx n) (hq : qn < n) (hb : W.heap[gi]? = some (.cells #[.int .i64 f0, .int .i64 f1, .int .i64 f2, .int .i64 f3] 45 (0, 0))) : S22 gr g0 qn gi f0 f1 f2 f3 W := by
  have hx := blk_cell h.r qn
  rw [rowCells_at g0 n n qn hq, if_pos hq] at hx
  exact ⟨hx, blk_cell hb 0, blk_cell hb 1, blk_cell hb 2, blk_cell hb 3⟩
/-- The head of the outer loop's state, as one. -/
theorem sp_S {w' : World} {gr g0 gn : Nat} {ad : Addr} {c0 : Nat} {l0 : List S45} {B : List (List Int)} {nx : List Int} {n : Nat} (h : Sp w' gr g0 gn (some ad) c0 l0 B nx n) {q : Nat} (q1 : q < n) (c2 : 0 ≤ rd nx (q : Int)) (c3 : rd nx (q : Int) < (l0.length : Int)) :
    w'.cell? ⟨gr, q, none⟩ = some (.slice (some ⟨g0 + q, 0, none⟩) 4 4) ∧ w'.cell? ⟨gn, q, none⟩ = some (.int .i64 (rd nx (q : Int))) ∧ w'.cell? (ad.add ((rd nx (q : Int)).toNat * 4)) = some (.int .i64 (rd_T45 l0 (rd nx (q : Int))).f0) ∧ w'.cell? ⟨(ad.add ((rd nx (q : Int)).toNat * 4)).block, (ad.add ((rd nx (q : Int)).toNat * 4)).off + 1, none⟩ = some (.int .i64 (rd_T45 l0 (rd nx (q : Int))).f1) ∧ w'.cell? ⟨(ad.add ((rd nx (q : Int)).toNat * 4)).block, (ad.add ((rd nx (q : Int)).toNat * 4)).off + 2, none⟩ = some (.int .i64 (rd_T45 l0 (rd nx (q : Int))).f2) ∧ w'.cell? ⟨(ad.add ((rd nx (q : Int)).toNat * 4)).block, (ad.add ((rd nx (q : Int)).toNat * 4)).off + 3, none⟩ = some (.int .i64 (rd_T45 l0 (rd nx (q : Int))).f3) := by
  obtain ⟨ad', e, h0, h1, h2, h3⟩ := at_T45 h.l (rd nx (q : Int)) c2 c3
  cases e
  have hx := blk_cell h.r q
  rw [rowCells_at g0 n n q q1, if_pos q1] at hx
  have hy := h.a.cell (q : Int) (by omega) (by rw [h.al]; omega)
  rw [Int.toNat_natCast] at hy
  exact ⟨hx, hy, h0, h1, h2, h3⟩
/-- The warp that is looked at. -/
def wOf (pol fr k : Int) (n : Nat) : Int := if pol = 1 then (fr + k) % n else k
def spec_can (F : Nat) (x : S45) (b : List Int) (t : Int) : Option Bool := spec_l36Can.f F x.f0 x.f1 x.f2 x.f3 b t
def spec_put (x : S45) (b : List Int) (t : Int) : Option (List Int) := (spec_WritesReg.f x.f0 x.f1 x.f2 x.f3).bind fun r => if r ≥ 0 then (if r < 4 then (spec_LatencyOf.f x.f0 x.f1 x.f2 x.f3).bind fun d => some (b.set r.toNat (wrap64 (t + d))) else none) else some b
/-- k = -1: the head of the outer loop. -/
def spec_l36Issue.l0 : Nat → List S45 → List (List Int) → List Int → Nat → Int → List S49 → Int → Int → Int → Option (List S49)
  | 0, _, _, _, _, _, _, _, _, _ => none
  | F + 1, l, B, nx, n, pol, out, fr, t, k => if k < 0 then (if (out.length : Int) < (n : Int) * (l.length : Int) then spec_l36Issue.l0 F l B nx n pol out fr t 0 else some out)
    else if k < (n : Int) then (if rd nx (wOf pol fr k n) = (l.length : Int) then spec_l36Issue.l0 F l B nx n pol out fr t (k + 1)
      else (if 0 ≤ rd nx (wOf pol fr k n) then (if rd nx (wOf pol fr k n) < (l.length : Int) then
        ((spec_can F (rd_T45 l (rd nx (wOf pol fr k n))) (B.getD ((wOf pol fr k n)).toNat []) t).bind fun ok => if ok = true then
          (if out.length < 1099511627776 then ((spec_put (rd_T45 l (rd nx (wOf pol fr k n))) (B.getD ((wOf pol fr k n)).toNat []) t).bind fun b2 =>
            spec_l36Issue.l0 F l (B.set ((wOf pol fr k n)).toNat b2) (nx.set ((wOf pol fr k n)).toNat (rd nx (wOf pol fr k n) + 1)) n pol (out ++ [⟨t, (wOf pol fr k n), rd nx (wOf pol fr k n)⟩]) (((wOf pol fr k n) + 1) % n) (wrap64 (t + 1)) (-1)) else none)
          else spec_l36Issue.l0 F l B nx n pol out fr t (k + 1)) else none) else none))
    else spec_l36Issue.l0 F l B nx n pol out fr (wrap64 (t + 1)) (-1)
def spec_l36Issue.f (k : Nat) (l0 : List S45) (a1 a2 : Int) : Option (List S49) :=
  if 1 ≤ a1 ∧ a1 ≤ 8 ∧ l0.length ≤ 32 then spec_l36Issue.l0 k l0 (List.replicate a1.toNat [0, 0, 0, 0]) (List.replicate a1.toNat 0) a1.toNat a2 [] 0 0 (-1) else none
theorem make_rows (W : World) (n : Nat) (hn : n ≤ 8) : (Instr.makeSlice 96 (.int .i64 n) (.int .i64 n)).run Try.prog W = .ok (.slice (some ⟨W.heap.size, 0, none⟩) n n) (W.alloc (.cells (Array.replicate n (.slice none 0 0)) 30)) := by
  obtain ⟨i0, hi, hz⟩ := Option.map_eq_some_iff.1 (by kernel_rfl : (Try.prog.info? 30).map (fun i => (i.zero, i.size, i.bytes)) = some (some (.slice none 0 0), 1, 24))
  simp only [Prod.mk.injEq] at hz
  obtain ⟨hz0, hz1, hz2⟩ := hz
  have hr := run_make (P := Try.prog) W 96 30 i0 _ Try.underlying96 hi hz0 .i64 .i64 (n : Int) (n : Int) (by omega) (by omega) (by rw [hz2]; omega) (by omega)
  have hmade : madeCells (Value.cells (.slice none 0 0)) n = Array.replicate n (.slice none 0 0) := by
    refine Array.ext (by simp [madeCells]) fun i h1 h2 => ?_
    simp [madeCells, Value.cells, Nat.mod_one]
  rw [hz1, Int.toNat_natCast, Nat.mul_one, hmade] at hr
  exact hr
theorem make_four (W : World) : (Instr.makeSlice 30 (.int .i64 4) (.int .i64 4)).run Try.prog W = .ok (.slice (some ⟨W.heap.size, 0, none⟩) 4 4) (W.alloc (.cells #[.int .i64 0, .int .i64 0, .int .i64 0, .int .i64 0] 3)) := by
  have h := make_ints W 4 (by omega)
  simpa using h
theorem size_setC (W : World) (a : Addr) (v : Value) : (W.setCell a v).heap.size = W.heap.size := by simp [World.setCell]
theorem spec_row {wr : World} {gr g0 n j : Nat} (h : wr.heap[gr]? = some (.cells (rowCells g0 n j) 30 (0, 0))) (hz : wr.heap.size = g0 + j) (hj : j < n) :
    ((wr.alloc (.cells #[.int .i64 0, .int .i64 0, .int .i64 0, .int .i64 0] 3)).setCell ⟨gr, j, none⟩ (.slice (some ⟨wr.heap.size, 0, none⟩) 4 4)).heap[gr]? = some (.cells (rowCells g0 n (j + 1)) 30 (0, 0)) := by
  have h1 := (Below.heap_alloc wr (.cells #[.int .i64 0, .int .i64 0, .int .i64 0, .int .i64 0] 3) gr (blk_lt h)).trans h
  rw [hz]
  exact blk_put h1 j _ (rowCells_set g0 n j hj)
theorem spec_rows {wr : World} {gr g0 j : Nat} {v : Value} (hz : wr.heap.size = g0 + j) (hg : gr < g0) (h : ∀ i, i < j → Nums wr (g0 + i) [0, 0, 0, 0]) (i : Nat) (hi : i < j + 1) :
    Nums ((wr.alloc (.cells #[.int .i64 0, .int .i64 0, .int .i64 0, .int .i64 0] 3)).setCell ⟨gr, j, none⟩ v) (g0 + i) [0, 0, 0, 0] := by
  refine Nums.far ?_ (by omega)
  by_cases e : i = j
  · subst e
    unfold Nums
    rw [← hz]
    exact blk_new wr _
  · have := h i (by omega)
    exact (Below.heap_alloc _ _ _ (blk_lt this)).trans this
set_option maxHeartbeats 8000000 in
set_option maxRecDepth 100000 in
theorem spec_l36Issue.calls (k : Nat) (A0 : Option Addr) (c0 : Nat) (l0 : List S45) (a1 a2 : Int) (r : List S49) (w : World) (hr0 : Kd.C k45 w A0 l0.length l0) (hc0 : l0.length ≤ c0) (h : spec_l36Issue.f k l0 a1 a2 = some r) :
    Calls Try.prog 80 #[.slice A0 l0.length c0, .int .i64 a1, .int .i64 a2] w fun e w' => ∃ v0_ : Value, e = .returned (v0_) ∧ Kd.R k49 49 w' w.heap.size (fun _ => True) v0_ r ∧ Below w.heap.size w w' := by
  have hu45 := Try.underlying45
  have hu49 := Try.underlying49
  have HR0 := Aside0.mk hr0
  have HC0 := Aside0.mk hc0
  have HB := Aside0.mk (Below.refl w.heap.size w)
  unfold spec_l36Issue.f at h
  by_cases hall : 1 ≤ a1 ∧ a1 ≤ 8 ∧ l0.length ≤ 32
  · rw [if_pos hall] at h
    obtain ⟨b1, b2, hn⟩ := hall
    obtain ⟨n, rfl⟩ := Int.eq_ofNat_of_zero_le (show 0 ≤ a1 by omega)
    rw [Int.toNat_natCast] at h
    have H' := Aside0.mk h
    have hm1 := fun W => make_rows W n (by omega)
    have hm2 := fun W => make_ints W n (by omega)
    have hm3 := make_four
    have hmul : IntKind.i64.wrap ((n : Int) * (l0.length : Int)) = (n : Int) * (l0.length : Int) := mul_wrap n l0.length (by omega) (by omega)
    clear h hr0 hc0
    go_enter Try.func80, Try.ntmps80
    go_wp2_with (first
      | ((with_reducible refine gate_dst (N := 16) rfl ?_); refine Kd.R_lit k49 _ 49 ?hg (N := 16) ?hd (xs := ([] : List S49)) (inner := []) (ok := fun _ => True) (okp := fun _ => True) ?hr ?hp (fun _ hk => hk) trivial (Below.refl _ _) (Nat.le_refl _) (by simp) ?_; (case hd => rfl); (case hg => rfl); (case hr => first | (go_simp; done) | (go_simp; rfl)); (case hp => exact (Reps.none _ _)); intro v4 w4 ho4 hb4 hg_ hnew_; clear hg_ hnew_; have HO4 := Aside0.mk (Kd.R_lower ho4 (below_size HB.out)); have HB4 := Aside0.mk (below_step HB.out hb4); clear hb4 ho4 HB))
    have HB5 := Aside0.mk (below_alloc (below_alloc HB4.out (.cells (Array.replicate n (.slice none 0 0)) 30)) (.cells (Array.replicate n (.int .i64 0)) 3))
    have HO5 := Aside0.mk (Kd.R_alloc (Kd.R_alloc HO4.out (.cells (Array.replicate n (.slice none 0 0)) 30)) (.cells (Array.replicate n (.int .i64 0)) 3))
    have HX5 := Aside0.mk (show ((w4.alloc (.cells (Array.replicate n (.slice none 0 0)) 30)).alloc (.cells (Array.replicate n (.int .i64 0)) 3)).heap[w4.heap.size]? = some (.cells (rowCells (w4.heap.size + 2) n 0) 30 (0, 0)) by rw [rowCells_zero]; exact litA w4 _ _)
    have HN5 := Aside0.mk (show Nums ((w4.alloc (.cells (Array.replicate n (.slice none 0 0)) 30)).alloc (.cells (Array.replicate n (.int .i64 0)) 3)) (w4.heap.size + 1) (List.replicate n 0) by unfold Nums; rw [rep_map]; exact lit2 w4 _ _)
    have HZ5 := Aside0.mk (show ((w4.alloc (.cells (Array.replicate n (.slice none 0 0)) 30)).alloc (.cells (Array.replicate n (.int .i64 0)) 3)).heap.size = w4.heap.size + 2 + 0 by rw [size_al', size_al'])
    have HG4 := Aside0.mk (show w.heap.size ≤ w4.heap.size from HB4.out.size)
    clear hm1 hm2
    go_loopw [10] (fun v10 wr => ∃ (j : Nat), v10 = .int .i64 (j : Int) ∧ Aside0 (j ≤ n) ∧ Aside0 (Below w.heap.size w wr) ∧ Aside0 (Kd.R k49 49 wr w.heap.size (fun _ => True) v4 []) ∧ Aside0 (wr.heap[w4.heap.size]? = some (.cells (rowCells (w4.heap.size + 2) n j) 30 (0, 0))) ∧ Aside0 (Nums wr (w4.heap.size + 1) (List.replicate n 0)) ∧ Aside0 (wr.heap.size = w4.heap.size + 2 + j) ∧ Aside0 (∀ i, i < j → Nums wr (w4.heap.size + 2 + i) [0, 0, 0, 0]))
      (fun v10 _ => n - (intOf v10).toNat)
    case atStart => exact ⟨0, rfl, ⟨by omega⟩, HB5, HO5, HX5, HN5, HZ5, ⟨fun i hi => by omega⟩⟩
    case round =>
      clear HB5 HO5 HX5 HN5 HZ5
      obtain ⟨j, rfl, HJ, HB6, HO6, HX6, HN6, HZ6, HR6⟩ := hrel
      by_cases hlt : j < n
      · have d1 : decide ((j : Int) < (n : Int)) = true := decide_eq_true (by omega)
        have q0 : (0 : Int) ≤ (j : Int) := by omega
        have q1 : (j : Int) < (n : Int) := by omega
        have HXa := (Below.heap_alloc wr (.cells #[.int .i64 0, .int .i64 0, .int .i64 0, .int .i64 0] 3) _ (blk_lt HX6.out)).trans HX6.out
        have hx := blk_cell HXa j
        rw [rowCells_at _ _ _ _ hlt, if_neg (by omega)] at hx
        have hf := blk_frozen HXa j
        clear HXa
        have hne : wr.heap.size ≠ w4.heap.size := by have := HZ6.out; omega
        have HLT := Aside0.mk hlt
        clear hlt
        go_wp2
        go_roundw
        case measure => have := HLT.out; simp only [intOf]; omega
        case rel =>
          have h1 := spec_row (j := j) HX6.out HZ6.out HLT.out
          exact ⟨j + 1, by first | rfl | go_num, ⟨HLT.out⟩, ⟨below_set (below_alloc HB6.out _) HG4.out⟩, ⟨R_grown (Kd.R_alloc HO6.out _) (Below.heap_alloc _ _ _ (blk_lt HX6.out) |>.trans HX6.out) (by decide) (grown_set _ _ _ _)⟩, ⟨h1⟩, ⟨Nums.far ((Below.heap_alloc _ _ _ (blk_lt HN6.out)).trans HN6.out) (by omega)⟩, ⟨by rw [size_setC, size_al']; have := HZ6.out; omega⟩, ⟨fun i hi => spec_rows HZ6.out (by omega) HR6.out i hi⟩⟩
      · have d1 : decide ((j : Int) < (n : Int)) = false := decide_eq_false (by omega)
        obtain rfl : j = n := by have := HJ.out; omega
        have HP6 := Aside0.mk (show Sp wr w4.heap.size (w4.heap.size + 2) (w4.heap.size + 1) A0 c0 l0 (List.replicate j [0, 0, 0, 0]) (List.replicate j 0) j from
          ⟨HX6.out, fun i hi => by rw [List.getD_eq_getElem?_getD, List.getElem?_replicate, if_pos hi]; exact HR6.out i hi, HN6.out, Kd.C_below HR0.out HB6.out, fun i hi => by rw [List.getD_eq_getElem?_getD, List.getElem?_replicate, if_pos hi]; rfl, by simp, by simp, by omega⟩)
        have HGR := Aside0.mk (show w.heap.size ≤ w4.heap.size from HG4.out)
        have HGN := Aside0.mk (show w.heap.size ≤ w4.heap.size + 1 by have := HG4.out; omega)
        have HG0 := Aside0.mk (show w.heap.size ≤ w4.heap.size + 2 by have := HG4.out; omega)
        clear hlt HX6 HN6 HZ6 HR6 HJ hm3
        generalize j = n at *
        have n0 : 1 ≤ (n : Int) := by omega
        go_wp2_with fail
        generalize w4.heap.size + 2 = g0 at *
        generalize w4.heap.size + 1 = gn at *
        generalize w4.heap.size = gr at *
        go_loopg [7, 11, 12] k (fun kq v7 v11 v12 w' => ∃ (out : List S49) (B : List (List Int)) (nx : List Int) (fr t : Int), v11 = .int .i64 fr ∧ v12 = .int .i64 t ∧ Aside0 (spec_l36Issue.l0 kq l0 B nx n a2 out fr t (-1) = some r) ∧ Aside0 (kq ≤ k) ∧ Aside0 (0 ≤ fr ∧ fr ≤ 8) ∧ Aside0 (Kd.R k49 49 w' w.heap.size (fun _ => True) v7 out) ∧ Aside0 (Sp w' gr g0 gn A0 c0 l0 B nx n) ∧ Aside0 (Below w.heap.size w w'))
        case atStart => exact ⟨[], _, _, 0, 0, rfl, rfl, H', ⟨Nat.le_refl _⟩, ⟨by omega⟩, HO6, HP6, HB6⟩
        case round =>
          clear H' HO6 HP6 HB6 HO4 HB4
          obtain ⟨out, B, nx, fr, t, rfl, rfl, HA, HK, HFR, HO, HP, HB⟩ := hrel
          cases gk with
          | zero => exact absurd HA.out (by simp [spec_l36Issue.l0])
          | succ k1 =>
            have H := HA.out
            clear HA
            simp only [spec_l36Issue.l0] at H
            rw [if_pos (show (-1 : Int) < 0 by omega)] at H
            obtain ⟨Ao, co, eo⟩ := Kd.R_slice HO.out
            subst eo
            by_cases c1 : (out.length : Int) < (n : Int) * (l0.length : Int)
            · rw [if_pos c1] at H
              have d2 : decide ((out.length : Int) < (n : Int) * (l0.length : Int)) = true := decide_eq_true c1
              have HN1 := Aside0.mk H
              clear H c1
              go_wp2_with fail
              go_loopg [7, 11, 13] k1 (fun kq v7 v11 v13 w' => ∃ (j : Int), v7 = .slice Ao out.length co ∧ v11 = .int .i64 fr ∧ v13 = .int .i64 j ∧ Aside0 (0 ≤ j) ∧ Aside0 (spec_l36Issue.l0 kq l0 B nx n a2 out fr t j = some r) ∧ Aside0 (kq ≤ k1) ∧ Aside0 (Kd.R k49 49 w' w.heap.size (fun _ => True) (.slice Ao out.length co) out) ∧ Aside0 (Sp w' gr g0 gn A0 c0 l0 B nx n) ∧ Aside0 (Below w.heap.size w w'))
              case atStart => exact ⟨0, rfl, rfl, rfl, ⟨by omega⟩, HN1, ⟨Nat.le_refl _⟩, HO, HP, HB⟩
              case round =>
                clear HN1 HO HP HB
                obtain ⟨j, rfl, rfl, rfl, HJ, HA, HK2, HO, HP, HB⟩ := hrel
                cases gk with
                | zero => exact absurd HA.out (by simp [spec_l36Issue.l0])
                | succ k2 =>
                  have H := HA.out
                  have hj := HJ.out
                  clear HA
                  simp only [spec_l36Issue.l0] at H
                  rw [if_neg (show ¬ j < 0 by omega)] at H
                  by_cases c2 : j < (n : Int)
                  · rw [if_pos c2] at H
                    have fr0 := HFR.out.1
                    have fr8 := HFR.out.2
                    by_cases hp : a2 = 1
                    · have hpb : (a2 == 1) = true := beq_iff_eq.mpr hp
                      have hw : wOf a2 fr j n = (fr + j) % n := by unfold wOf; rw [if_pos hp]
                      rw [hw] at H
                      have m0 : 0 ≤ (fr + j) % (n : Int) := Int.emod_nonneg _ (by omega)
                      have m1 : (fr + j) % (n : Int) < n := Int.emod_lt_of_pos _ (by omega)
                      obtain ⟨qn, hqn⟩ := Int.eq_ofNat_of_zero_le m0
                      rw [hqn] at H m1
                      have q1 : qn < n := by omega
                      rw [Int.toNat_natCast] at H
                      clear hw hp m0
                      by_cases e1 : rd nx (qn : Int) = (l0.length : Int)
                      · rw [if_pos e1] at H
                        have HN2 := Aside0.mk H
                        have f1 : (rd nx (qn : Int) == (l0.length : Int)) = true := beq_iff_eq.mpr e1
                        have hy := HP.out.a.cell (qn : Int) (by omega) (by rw [HP.out.al]; omega)
                        rw [Int.toNat_natCast] at hy
                        have HE1 := Aside0.mk e1
                        clear H e1
                        go_wp2_with fail
                        go_quiet (fail)
                        go_wp2
                        go_roundg k2
                        case measure => have := HK2.out; omega
                        case rel => exact ⟨_, rfl, rfl, rfl, ⟨by omega⟩, HN2, ⟨by have := HK2.out; omega⟩, ⟨Kd.R_drewN HO.out _⟩, ⟨HP.out.drewN _⟩, ⟨pw_below_drewN HB.out _⟩⟩
                      · rw [if_neg e1] at H
                        have f1 : (rd nx (qn : Int) == (l0.length : Int)) = false := beq_eq_false_iff_ne.mpr e1
                        by_cases e2 : 0 ≤ rd nx (qn : Int)
                        · rw [if_pos e2] at H
                          by_cases e3 : rd nx (qn : Int) < (l0.length : Int)
                          · rw [if_pos e3] at H
                            obtain ⟨ok, hok, H⟩ := Option.bind_eq_some_iff.mp H
                            have HOK := Aside0.mk hok
                            have HBL := Aside0.mk (HP.out.bl qn (by omega))
                            have HBC := Aside0.mk (Nums.C (HP.out.drew.b qn (by omega)) (by rw [HP.out.bl qn (by omega)]; omega))
                            clear hok e1
                            obtain ⟨ad, eA⟩ : ∃ ad, A0 = some ad := by
                              obtain ⟨ad', e, _⟩ := at_T45 HR0.out (rd nx (qn : Int)) e2 e3
                              exact ⟨ad', e⟩
                            subst eA
                            cases ok with
                            | false =>
                              have HN2 := Aside0.mk (by simpa using H)
                              clear H
                              go_wp2_with fail
                              go_region_held3 (fun w' => w'.cell? ⟨gr, qn, none⟩ = some (.slice (some ⟨g0 + qn, 0, none⟩) 4 4) ∧ w'.cell? ⟨gn, qn, none⟩ = some (.int .i64 (rd nx (qn : Int))) ∧ w'.cell? (ad.add ((rd nx (qn : Int)).toNat * 4)) = some (.int .i64 (rd_T45 l0 (rd nx (qn : Int))).f0) ∧ w'.cell? ⟨(ad.add ((rd nx (qn : Int)).toNat * 4)).block, (ad.add ((rd nx (qn : Int)).toNat * 4)).off + 1, none⟩ = some (.int .i64 (rd_T45 l0 (rd nx (qn : Int))).f1) ∧ w'.cell? ⟨(ad.add ((rd nx (qn : Int)).toNat * 4)).block, (ad.add ((rd nx (qn : Int)).toNat * 4)).off + 2, none⟩ = some (.int .i64 (rd_T45 l0 (rd nx (qn : Int))).f2) ∧ w'.cell? ⟨(ad.add ((rd nx (qn : Int)).toNat * 4)).block, (ad.add ((rd nx (qn : Int)).toNat * 4)).off + 3, none⟩ = some (.int .i64 (rd_T45 l0 (rd nx (qn : Int))).f3))
                                (first | exact sp_S HP.out.drew q1 e2 e3 | exact sp_S HP4.out q1 e2 e3)
                                (first | (go_at_call 108; refine calls_of_args (args' := #[.agg #[.int .i64 (rd_T45 l0 (rd nx (qn : Int))).f0, .int .i64 (rd_T45 l0 (rd nx (qn : Int))).f1, .int .i64 (rd_T45 l0 (rd nx (qn : Int))).f2, .int .i64 (rd_T45 l0 (rd nx (qn : Int))).f3], .slice (some ⟨g0 + qn, 0, none⟩) (B.getD qn []).length 4, .int .i64 t]) (by rw [HBL.out]) ?_; refine (spec_l36Can.calls k2 _ _ _ _ _ 4 (B.getD qn []) t _ _ HBC.out (by rw [HBL.out]; exact Nat.le_refl _) HOK.out).mono ?_; rintro e w4 ⟨rfl, hb4⟩; have HP4 := Aside0.mk (HP.out.drew.below hb4); have HB4 := Aside0.mk (below_step HB.out.drew hb4); have HO4 := Aside0.mk (Kd.R_below (Kd.R_drew HO.out) hb4); clear hb4))
                              go_wp2
                              go_roundg k2
                              case measure => have := HK2.out; omega
                              case rel => exact ⟨_, rfl, rfl, rfl, ⟨by omega⟩, HN2, ⟨by have := HK2.out; omega⟩, HO4, HP4, HB4⟩
                            | true =>
                              have HN1 := Aside0.mk (by simpa using H : (if out.length < 1099511627776 then ((spec_put (rd_T45 l0 (rd nx (qn : Int))) (B.getD qn []) t).bind fun b2 => spec_l36Issue.l0 k2 l0 (B.set qn b2) (nx.set qn (rd nx (qn : Int) + 1)) n a2 (out ++ [⟨t, (qn : Int), rd nx (qn : Int)⟩]) (((qn : Int) + 1) % n) (wrap64 (t + 1)) (-1)) else none) = some r)
                              clear H
                              have H := HN1.out
                              clear HN1
                              by_cases c6 : out.length < 1099511627776
                              · rw [if_pos c6] at H
                                obtain ⟨b2, hb2, H⟩ := Option.bind_eq_some_iff.mp H
                                have HN2 := Aside0.mk H
                                have HLO := Aside0.mk c6
                                obtain ⟨rr, hrr, hb2⟩ := Option.bind_eq_some_iff.mp hb2
                                have HWR := Aside0.mk hrr
                                have HBP := Aside0.mk hb2
                                clear H hb2 hrr c6
                                go_wp2_with fail
                                go_region_held3 (fun w' => w'.cell? ⟨gr, qn, none⟩ = some (.slice (some ⟨g0 + qn, 0, none⟩) 4 4) ∧ w'.cell? ⟨gn, qn, none⟩ = some (.int .i64 (rd nx (qn : Int))) ∧ w'.cell? (ad.add ((rd nx (qn : Int)).toNat * 4)) = some (.int .i64 (rd_T45 l0 (rd nx (qn : Int))).f0) ∧ w'.cell? ⟨(ad.add ((rd nx (qn : Int)).toNat * 4)).block, (ad.add ((rd nx (qn : Int)).toNat * 4)).off + 1, none⟩ = some (.int .i64 (rd_T45 l0 (rd nx (qn : Int))).f1) ∧ w'.cell? ⟨(ad.add ((rd nx (qn : Int)).toNat * 4)).block, (ad.add ((rd nx (qn : Int)).toNat * 4)).off + 2, none⟩ = some (.int .i64 (rd_T45 l0 (rd nx (qn : Int))).f2) ∧ w'.cell? ⟨(ad.add ((rd nx (qn : Int)).toNat * 4)).block, (ad.add ((rd nx (qn : Int)).toNat * 4)).off + 3, none⟩ = some (.int .i64 (rd_T45 l0 (rd nx (qn : Int))).f3))
                                  (first | exact sp_S HP.out.drew q1 e2 e3 | exact sp_S HP4.out q1 e2 e3)
                                  (first | (go_at_call 108; refine calls_of_args (args' := #[.agg #[.int .i64 (rd_T45 l0 (rd nx (qn : Int))).f0, .int .i64 (rd_T45 l0 (rd nx (qn : Int))).f1, .int .i64 (rd_T45 l0 (rd nx (qn : Int))).f2, .int .i64 (rd_T45 l0 (rd nx (qn : Int))).f3], .slice (some ⟨g0 + qn, 0, none⟩) (B.getD qn []).length 4, .int .i64 t]) (by rw [HBL.out]) ?_; refine (spec_l36Can.calls k2 _ _ _ _ _ 4 (B.getD qn []) t _ _ HBC.out (by rw [HBL.out]; exact Nat.le_refl _) HOK.out).mono ?_; rintro e w4 ⟨rfl, hb4⟩; have HP4 := Aside0.mk (HP.out.drew.below hb4); have HB4 := Aside0.mk (below_step HB.out.drew hb4); have HO4 := Aside0.mk (Kd.R_below (Kd.R_drew HO.out) hb4); clear hb4))
                                go_wp2_with (first
                                  | ((with_reducible refine gate_dst (N := 15) rfl ?_); refine box_event ?hg (N := 15) ?hd (cs := #[.int .i64 0, .int .i64 0, .int .i64 0, .int .i64 0]) (t := 45) ?hr ?_; (case hd => rfl); (case hg => rfl); (case hr => first | (go_simp; done) | (go_simp; rfl)); intro gi hg wb hbox hb; have BK := Aside0.mk hbox; have GE := Aside0.mk ((by rw [hg]; exact below_size HB4.out) : w.heap.size ≤ gi); have HO5 := Aside0.mk (Kd.R_below HO4.out hb); have HP5 := Aside0.mk (HP4.out.below hb); have HB5 := Aside0.mk (below_step HB4.out hb); have hS := sp_S HP5.out q1 e2 e3; obtain ⟨s0, s1, s2, s3, s4, s5⟩ := hS; clear hb hbox hg HO4 HP4 HB4; have hcz0 := blk_cell BK.out 0; have hcz1 := blk_cell BK.out 1; have hcz2 := blk_cell BK.out 2; have hcz3 := blk_cell BK.out 3; have hfz0 := blk_frozen BK.out 0; have hfz1 := blk_frozen BK.out 1; have hfz2 := blk_frozen BK.out 2; have hfz3 := blk_frozen BK.out 3; have ne1 := blk_neT (show wb.heap[gn]? = some (.cells _ 3 (0, 0)) from HP5.out.a) BK.out (by decide))
                                  | ((with_reducible refine gate_builtin (b := .append) (xs := #[.tmp 82, .tmp 90]) rfl ?_); at_builtin; refine Kd.R_append k49 (w0 := w) w.heap.size rfl (.tmp 82) (.tmp 90) 35 49 (.agg #[.int .i64 0, .int .i64 0, .int .i64 0]) 24 rfl Try.underlying35 info49 rfl (by decide) (by omega) (.slice Ao out.length co) out ⟨t, (qn : Int), rd nx (qn : Int)⟩ [.int .i64 t, .int .i64 (qn : Int), .int .i64 (rd nx (qn : Int))] (fun _ => True) (fun _ => False) rfl (by first | (go_simp; done) | (go_simp; rfl)) ?aP (fun _ hk => hk.elim) ?aF ?aO ?aB ?aS ?aL ?_; (case aP => exact k49_mkM _ _ _ _); (case aB => exact Below.grown HB5.out (grown4 _ _ _ _ _ _) (below_size HB5.out) (fun j hj => by cases hj; exact GE.out)); (case aF => exact (fun _ _ => trivial)); (case aO => exact R_grown HO5.out BK.out (by decide) (grown4 _ _ _ _ _ _)); (case aS => exact (below_size (Below.grown HB5.out (grown4 _ _ _ _ _ _) (below_size HB5.out) (fun j hj => by cases hj; exact GE.out)))); (case aL => have := HLO.out; omega); intro v6 w6 ho hb hg hat; have HP5b := (HP5.out.boxed BK.out (by decide) (by decide) (grown4 wb gi (.int .i64 (rd_T45 l0 (rd nx (qn : Int))).f0) (.int .i64 (rd_T45 l0 (rd nx (qn : Int))).f1) (.int .i64 (rd_T45 l0 (rd nx (qn : Int))).f2) (.int .i64 (rd_T45 l0 (rd nx (qn : Int))).f3)) (Kd.C_below HR0.out (Below.grown HB5.out (grown4 _ _ _ _ _ _) (below_size HB5.out) (fun j hj => by cases hj; exact GE.out)))); have HO5b := R_grown HO5.out BK.out (by decide) (grown4 wb gi (.int .i64 (rd_T45 l0 (rd nx (qn : Int))).f0) (.int .i64 (rd_T45 l0 (rd nx (qn : Int))).f1) (.int .i64 (rd_T45 l0 (rd nx (qn : Int))).f2) (.int .i64 (rd_T45 l0 (rd nx (qn : Int))).f3)); have HP6 := Aside0.mk (HP5b.appended HO5b hg (Kd.C_below HR0.out hb)); have BK6 := Aside0.mk (blk_grown (box4 BK.out (.int .i64 (rd_T45 l0 (rd nx (qn : Int))).f0) (.int .i64 (rd_T45 l0 (rd nx (qn : Int))).f1) (.int .i64 (rd_T45 l0 (rd nx (qn : Int))).f2) (.int .i64 (rd_T45 l0 (rd nx (qn : Int))).f3)) hg (Kd.R_ne HO5b (box4 BK.out (.int .i64 (rd_T45 l0 (rd nx (qn : Int))).f0) (.int .i64 (rd_T45 l0 (rd nx (qn : Int))).f1) (.int .i64 (rd_T45 l0 (rd nx (qn : Int))).f2) (.int .i64 (rd_T45 l0 (rd nx (qn : Int))).f3)) (by decide))); have HO6 := Aside0.mk ho; have HB6 := Aside0.mk hb; clear HP5b HO5b; clear ho hb hg hat HP5 HO5 HB5 BK s0 s1 s2 s3 s4 s5 hcz0 hcz1 hcz2 hcz3 hfz0 hfz1 hfz2 hfz3 ne1; have hcz0 := blk_cell BK6.out 0; have hcz1 := blk_cell BK6.out 1; have hcz2 := blk_cell BK6.out 2; have hcz3 := blk_cell BK6.out 3))
                                refine (spec_WritesReg.calls (rd_T45 l0 (rd nx (qn : Int))).f0 (rd_T45 l0 (rd nx (qn : Int))).f1 (rd_T45 l0 (rd nx (qn : Int))).f2 (rd_T45 l0 (rd nx (qn : Int))).f3 rr _ HWR.out).mono ?_
                                rintro e w7 ⟨rfl, hb7⟩
                                have HO7 := Aside0.mk (Kd.R_below HO6.out hb7)
                                have HP7 := Aside0.mk (HP6.out.below hb7)
                                have HB7 := Aside0.mk (below_step HB6.out hb7)
                                have BK7 := Aside0.mk ((hb7.block gi (blk_lt BK6.out)).trans BK6.out)
                                clear hb7 HO6 HP6 HB6 BK6 hcz0 hcz1 hcz2 hcz3
                                have hb2 := HBP.out
                                clear HBP
                                by_cases r0 : rr ≥ 0
                                · rw [if_pos r0] at hb2
                                  by_cases r4 : rr < 4
                                  · rw [if_pos r4] at hb2
                                    obtain ⟨dd, hdd, hb2⟩ := Option.bind_eq_some_iff.mp hb2
                                    have HDD := Aside0.mk hdd
                                    have HB2 := Aside0.mk (Option.some.inj hb2)
                                    have g1 : decide (0 ≤ rr) = true := decide_eq_true r0
                                    have g2 : decide (rr < 4) = true := decide_eq_true r4
                                    have FP := Aside0.mk (fun W' (hW : Below w7.heap.size w7 W') => HP7.out.below hW)
                                    have FS := Aside0.mk (fun W' (hW : Below w7.heap.size w7 W') => S22.of (HP7.out.below hW) q1 ((hW.block gi (blk_lt BK7.out)).trans BK7.out))
                                    have HB70 := Aside0.mk (below_drew1 (Below.refl w7.heap.size w7))
                                    have HNE := Aside0.mk (show gr ≠ g0 + qn ∧ gi ≠ g0 + qn from ⟨blk_neT HP7.out.r (show w7.heap[g0 + qn]? = some (.cells _ 3 (0, 0)) from HP7.out.b qn q1) (by decide), blk_neT BK7.out (show w7.heap[g0 + qn]? = some (.cells _ 3 (0, 0)) from HP7.out.b qn q1) (by decide)⟩)
                                    clear hdd hb2
                                    go_wp2_with fail
                                    go_region_held3 (fun w' => w'.cell? ⟨gr, qn, none⟩ = some (.slice (some ⟨g0 + qn, 0, none⟩) 4 4) ∧ w'.cell? ⟨gi, 0, none⟩ = some (.int .i64 (rd_T45 l0 (rd nx (qn : Int))).f0) ∧ w'.cell? ⟨gi, 1, none⟩ = some (.int .i64 (rd_T45 l0 (rd nx (qn : Int))).f1) ∧ w'.cell? ⟨gi, 2, none⟩ = some (.int .i64 (rd_T45 l0 (rd nx (qn : Int))).f2) ∧ w'.cell? ⟨gi, 3, none⟩ = some (.int .i64 (rd_T45 l0 (rd nx (qn : Int))).f3))
                                      (first | exact FS.out _ HB70.out | exact FS.out _ HA8.out | exact FS.out _ HD8.out | exact S22.far (FS.out _ HA8.out) _ _ _ HNE.out.1 HNE.out.2 | exact S22.far (FS.out _ HD8.out) _ _ _ HNE.out.1 HNE.out.2)
                                      (first
                                        | (go_at_call 73; refine (spec_WritesReg.calls _ _ _ _ rr _ HWR.out).mono ?_; rintro e wA ⟨rfl, hA0⟩; have HA8 := Aside0.mk (below_step (by first | exact HB70.out | exact HD8.out) hA0); clear hA0; have hcA := ((FP.out _ HA8.out).b qn q1).cell rr r0 (by rw [HBL.out]; omega); have hfA := blk_frozen ((FP.out _ HA8.out).b qn q1) rr.toNat)
                                        | (go_at_call 72; refine (spec_LatencyOf.calls _ _ _ _ dd _ HDD.out).mono ?_; rintro e wD ⟨rfl, hD0⟩; have HD8 := Aside0.mk (below_step (by first | exact HB70.out | exact HA8.out) hD0); clear hD0; have hcD := ((FP.out _ HD8.out).b qn q1).cell rr r0 (by rw [HBL.out]; omega); have hfD := blk_frozen ((FP.out _ HD8.out).b qn q1) rr.toNat))
                                    · have HB8 := Aside0.mk (below_step HB7.out HD8.out)
                                      have HP8 := Aside0.mk (FP.out _ HD8.out)
                                      have HO8 := Aside0.mk (Kd.R_below HO7.out HD8.out)
                                      have HB9 := Aside0.mk (below_set (j := rr.toNat) (v := .int .i64 (wrap64 (t + dd))) HB8.out (show w.heap.size ≤ g0 + qn by have := HG0.out; omega))
                                      have HP9 := Aside0.mk (HP8.out.putRow qn rr.toNat q1 (wrap64 (t + dd)) (Kd.C_below HR0.out HB9.out))
                                      have HO9 := Aside0.mk (R_grown HO8.out (show wD.heap[g0 + qn]? = some (.cells _ 3 (0, 0)) from HP8.out.b qn q1) (by decide) (grown_set wD (g0 + qn) rr.toNat (.int .i64 (wrap64 (t + dd)))))
                                      rw [HB2.out] at HP9
                                      rw [i64_w]
                                      generalize wD.setCell ⟨g0 + qn, rr.toNat, none⟩ (.int .i64 (wrap64 (t + dd))) = W9 at *
                                      clear HB8 HP8 HO8 FP FS HB70 HNE HO7 HP7 HB7 BK7
                                      have hy := HP9.out.a.cell (qn : Int) (by omega) (by rw [HP9.out.al]; omega)
                                      rw [Int.toNat_natCast] at hy
                                      have hf := blk_frozen HP9.out.a qn
                                      have z0 : 0 ≤ ((qn : Int) + 1) % (n : Int) := Int.emod_nonneg _ (by omega)
                                      have z1 : ((qn : Int) + 1) % (n : Int) < n := Int.emod_lt_of_pos _ (by omega)
                                      have HZ := Aside0.mk (show 0 ≤ ((qn : Int) + 1) % (n : Int) ∧ ((qn : Int) + 1) % (n : Int) ≤ 8 by omega)
                                      have HB10 := Aside0.mk (below_set (j := qn) (v := .int .i64 (rd nx (qn : Int) + 1)) HB9.out HGN.out)
                                      have HP10 := Aside0.mk (HP9.out.putNext qn (rd nx (qn : Int) + 1) (Kd.C_below HR0.out HB10.out))
                                      have HO10 := Aside0.mk (R_grown HO9.out (show W9.heap[gn]? = some (.cells _ 3 (0, 0)) from HP9.out.a) (by decide) (grown_set W9 gn qn (.int .i64 (rd nx (qn : Int) + 1))))
                                      go_wp2
                                      go_roundg k2
                                      case measure => have := HK2.out; omega
                                      case rel => exact ⟨_, _, _, _, wrap64 (t + 1), rfl, rfl, HN2, ⟨by have := HK.out; have := HK2.out; omega⟩, HZ, HO10, HP10, HB10⟩
                                  · rw [if_neg r4] at hb2; cases hb2
                                · rw [if_neg r0] at hb2
                                  obtain rfl := Option.some.inj hb2
                                  have g1 : decide (0 ≤ rr) = false := decide_eq_false (by omega)
                                  have HN3 := HN2.out
                                  rw [set_same B qn] at HN3
                                  have HN2 := Aside0.mk HN3
                                  have HP9 := HP7
                                  have HO9 := HO7
                                  have HB9 := HB7
                                  clear HN3 HP7 HO7 HB7 BK7
                                  generalize w7 = W9 at *
                                  have hy := HP9.out.a.cell (qn : Int) (by omega) (by rw [HP9.out.al]; omega)
                                  rw [Int.toNat_natCast] at hy
                                  have hf := blk_frozen HP9.out.a qn
                                  have z0 : 0 ≤ ((qn : Int) + 1) % (n : Int) := Int.emod_nonneg _ (by omega)
                                  have z1 : ((qn : Int) + 1) % (n : Int) < n := Int.emod_lt_of_pos _ (by omega)
                                  have HZ := Aside0.mk (show 0 ≤ ((qn : Int) + 1) % (n : Int) ∧ ((qn : Int) + 1) % (n : Int) ≤ 8 by omega)
                                  have HB10 := Aside0.mk (below_set (j := qn) (v := .int .i64 (rd nx (qn : Int) + 1)) HB9.out HGN.out)
                                  have HP10 := Aside0.mk (HP9.out.putNext qn (rd nx (qn : Int) + 1) (Kd.C_below HR0.out HB10.out))
                                  have HO10 := Aside0.mk (R_grown HO9.out (show W9.heap[gn]? = some (.cells _ 3 (0, 0)) from HP9.out.a) (by decide) (grown_set W9 gn qn (.int .i64 (rd nx (qn : Int) + 1))))
                                  go_wp2
                                  go_roundg k2
                                  case measure => have := HK2.out; omega
                                  case rel => exact ⟨_, _, _, _, wrap64 (t + 1), rfl, rfl, HN2, ⟨by have := HK.out; have := HK2.out; omega⟩, HZ, HO10, HP10, HB10⟩
                              · rw [if_neg c6] at H; cases H
                          · rw [if_neg e3] at H; cases H
                        · rw [if_neg e2] at H; cases H
                    · have hpb : (a2 == 1) = false := beq_eq_false_iff_ne.mpr hp
                      have hw : wOf a2 fr j n = j := by unfold wOf; rw [if_neg hp]
                      rw [hw] at H
                      obtain ⟨qn, rfl⟩ := Int.eq_ofNat_of_zero_le hj
                      have q1 : qn < n := by omega
                      have m1 : (qn : Int) < (n : Int) := c2
                      rw [Int.toNat_natCast] at H
                      clear hw hp
                      by_cases e1 : rd nx (qn : Int) = (l0.length : Int)
                      · rw [if_pos e1] at H
                        have HN2 := Aside0.mk H
                        have f1 : (rd nx (qn : Int) == (l0.length : Int)) = true := beq_iff_eq.mpr e1
                        have hy := HP.out.a.cell (qn : Int) (by omega) (by rw [HP.out.al]; omega)
                        rw [Int.toNat_natCast] at hy
                        have HE1 := Aside0.mk e1
                        clear H e1
                        go_wp2_with fail
                        go_quiet (fail)
                        go_wp2
                        go_roundg k2
                        case measure => have := HK2.out; omega
                        case rel => exact ⟨_, rfl, rfl, rfl, ⟨by omega⟩, HN2, ⟨by have := HK2.out; omega⟩, ⟨Kd.R_drewN HO.out _⟩, ⟨HP.out.drewN _⟩, ⟨pw_below_drewN HB.out _⟩⟩
                      · rw [if_neg e1] at H
                        have f1 : (rd nx (qn : Int) == (l0.length : Int)) = false := beq_eq_false_iff_ne.mpr e1
                        by_cases e2 : 0 ≤ rd nx (qn : Int)
                        · rw [if_pos e2] at H
                          by_cases e3 : rd nx (qn : Int) < (l0.length : Int)
                          · rw [if_pos e3] at H
                            obtain ⟨ok, hok, H⟩ := Option.bind_eq_some_iff.mp H
                            have HOK := Aside0.mk hok
                            have HBL := Aside0.mk (HP.out.bl qn (by omega))
                            have HBC := Aside0.mk (Nums.C (HP.out.drew.b qn (by omega)) (by rw [HP.out.bl qn (by omega)]; omega))
                            clear hok e1
                            obtain ⟨ad, eA⟩ : ∃ ad, A0 = some ad := by
                              obtain ⟨ad', e, _⟩ := at_T45 HR0.out (rd nx (qn : Int)) e2 e3
                              exact ⟨ad', e⟩
                            subst eA
                            cases ok with
                            | false =>
                              have HN2 := Aside0.mk (by simpa using H)
                              clear H
                              go_wp2_with fail
                              go_region_held3 (fun w' => w'.cell? ⟨gr, qn, none⟩ = some (.slice (some ⟨g0 + qn, 0, none⟩) 4 4) ∧ w'.cell? ⟨gn, qn, none⟩ = some (.int .i64 (rd nx (qn : Int))) ∧ w'.cell? (ad.add ((rd nx (qn : Int)).toNat * 4)) = some (.int .i64 (rd_T45 l0 (rd nx (qn : Int))).f0) ∧ w'.cell? ⟨(ad.add ((rd nx (qn : Int)).toNat * 4)).block, (ad.add ((rd nx (qn : Int)).toNat * 4)).off + 1, none⟩ = some (.int .i64 (rd_T45 l0 (rd nx (qn : Int))).f1) ∧ w'.cell? ⟨(ad.add ((rd nx (qn : Int)).toNat * 4)).block, (ad.add ((rd nx (qn : Int)).toNat * 4)).off + 2, none⟩ = some (.int .i64 (rd_T45 l0 (rd nx (qn : Int))).f2) ∧ w'.cell? ⟨(ad.add ((rd nx (qn : Int)).toNat * 4)).block, (ad.add ((rd nx (qn : Int)).toNat * 4)).off + 3, none⟩ = some (.int .i64 (rd_T45 l0 (rd nx (qn : Int))).f3))
                                (first | exact sp_S HP.out.drew q1 e2 e3 | exact sp_S HP4.out q1 e2 e3)
                                (first | (go_at_call 108; refine calls_of_args (args' := #[.agg #[.int .i64 (rd_T45 l0 (rd nx (qn : Int))).f0, .int .i64 (rd_T45 l0 (rd nx (qn : Int))).f1, .int .i64 (rd_T45 l0 (rd nx (qn : Int))).f2, .int .i64 (rd_T45 l0 (rd nx (qn : Int))).f3], .slice (some ⟨g0 + qn, 0, none⟩) (B.getD qn []).length 4, .int .i64 t]) (by rw [HBL.out]) ?_; refine (spec_l36Can.calls k2 _ _ _ _ _ 4 (B.getD qn []) t _ _ HBC.out (by rw [HBL.out]; exact Nat.le_refl _) HOK.out).mono ?_; rintro e w4 ⟨rfl, hb4⟩; have HP4 := Aside0.mk (HP.out.drew.below hb4); have HB4 := Aside0.mk (below_step HB.out.drew hb4); have HO4 := Aside0.mk (Kd.R_below (Kd.R_drew HO.out) hb4); clear hb4))
                              go_wp2
                              go_roundg k2
                              case measure => have := HK2.out; omega
                              case rel => exact ⟨_, rfl, rfl, rfl, ⟨by omega⟩, HN2, ⟨by have := HK2.out; omega⟩, HO4, HP4, HB4⟩
                            | true =>
                              have HN1 := Aside0.mk (by simpa using H : (if out.length < 1099511627776 then ((spec_put (rd_T45 l0 (rd nx (qn : Int))) (B.getD qn []) t).bind fun b2 => spec_l36Issue.l0 k2 l0 (B.set qn b2) (nx.set qn (rd nx (qn : Int) + 1)) n a2 (out ++ [⟨t, (qn : Int), rd nx (qn : Int)⟩]) (((qn : Int) + 1) % n) (wrap64 (t + 1)) (-1)) else none) = some r)
                              clear H
                              have H := HN1.out
                              clear HN1
                              by_cases c6 : out.length < 1099511627776
                              · rw [if_pos c6] at H
                                obtain ⟨b2, hb2, H⟩ := Option.bind_eq_some_iff.mp H
                                have HN2 := Aside0.mk H
                                have HLO := Aside0.mk c6
                                obtain ⟨rr, hrr, hb2⟩ := Option.bind_eq_some_iff.mp hb2
                                have HWR := Aside0.mk hrr
                                have HBP := Aside0.mk hb2
                                clear H hb2 hrr c6
                                go_wp2_with fail
                                go_region_held3 (fun w' => w'.cell? ⟨gr, qn, none⟩ = some (.slice (some ⟨g0 + qn, 0, none⟩) 4 4) ∧ w'.cell? ⟨gn, qn, none⟩ = some (.int .i64 (rd nx (qn : Int))) ∧ w'.cell? (ad.add ((rd nx (qn : Int)).toNat * 4)) = some (.int .i64 (rd_T45 l0 (rd nx (qn : Int))).f0) ∧ w'.cell? ⟨(ad.add ((rd nx (qn : Int)).toNat * 4)).block, (ad.add ((rd nx (qn : Int)).toNat * 4)).off + 1, none⟩ = some (.int .i64 (rd_T45 l0 (rd nx (qn : Int))).f1) ∧ w'.cell? ⟨(ad.add ((rd nx (qn : Int)).toNat * 4)).block, (ad.add ((rd nx (qn : Int)).toNat * 4)).off + 2, none⟩ = some (.int .i64 (rd_T45 l0 (rd nx (qn : Int))).f2) ∧ w'.cell? ⟨(ad.add ((rd nx (qn : Int)).toNat * 4)).block, (ad.add ((rd nx (qn : Int)).toNat * 4)).off + 3, none⟩ = some (.int .i64 (rd_T45 l0 (rd nx (qn : Int))).f3))
                                  (first | exact sp_S HP.out.drew q1 e2 e3 | exact sp_S HP4.out q1 e2 e3)
                                  (first | (go_at_call 108; refine calls_of_args (args' := #[.agg #[.int .i64 (rd_T45 l0 (rd nx (qn : Int))).f0, .int .i64 (rd_T45 l0 (rd nx (qn : Int))).f1, .int .i64 (rd_T45 l0 (rd nx (qn : Int))).f2, .int .i64 (rd_T45 l0 (rd nx (qn : Int))).f3], .slice (some ⟨g0 + qn, 0, none⟩) (B.getD qn []).length 4, .int .i64 t]) (by rw [HBL.out]) ?_; refine (spec_l36Can.calls k2 _ _ _ _ _ 4 (B.getD qn []) t _ _ HBC.out (by rw [HBL.out]; exact Nat.le_refl _) HOK.out).mono ?_; rintro e w4 ⟨rfl, hb4⟩; have HP4 := Aside0.mk (HP.out.drew.below hb4); have HB4 := Aside0.mk (below_step HB.out.drew hb4); have HO4 := Aside0.mk (Kd.R_below (Kd.R_drew HO.out) hb4); clear hb4))
                                go_wp2_with (first
                                  | ((with_reducible refine gate_dst (N := 15) rfl ?_); refine box_event ?hg (N := 15) ?hd (cs := #[.int .i64 0, .int .i64 0, .int .i64 0, .int .i64 0]) (t := 45) ?hr ?_; (case hd => rfl); (case hg => rfl); (case hr => first | (go_simp; done) | (go_simp; rfl)); intro gi hg wb hbox hb; have BK := Aside0.mk hbox; have GE := Aside0.mk ((by rw [hg]; exact below_size HB4.out) : w.heap.size ≤ gi); have HO5 := Aside0.mk (Kd.R_below HO4.out hb); have HP5 := Aside0.mk (HP4.out.below hb); have HB5 := Aside0.mk (below_step HB4.out hb); have hS := sp_S HP5.out q1 e2 e3; obtain ⟨s0, s1, s2, s3, s4, s5⟩ := hS; clear hb hbox hg HO4 HP4 HB4; have hcz0 := blk_cell BK.out 0; have hcz1 := blk_cell BK.out 1; have hcz2 := blk_cell BK.out 2; have hcz3 := blk_cell BK.out 3; have hfz0 := blk_frozen BK.out 0; have hfz1 := blk_frozen BK.out 1; have hfz2 := blk_frozen BK.out 2; have hfz3 := blk_frozen BK.out 3; have ne1 := blk_neT (show wb.heap[gn]? = some (.cells _ 3 (0, 0)) from HP5.out.a) BK.out (by decide))
                                  | ((with_reducible refine gate_builtin (b := .append) (xs := #[.tmp 82, .tmp 90]) rfl ?_); at_builtin; refine Kd.R_append k49 (w0 := w) w.heap.size rfl (.tmp 82) (.tmp 90) 35 49 (.agg #[.int .i64 0, .int .i64 0, .int .i64 0]) 24 rfl Try.underlying35 info49 rfl (by decide) (by omega) (.slice Ao out.length co) out ⟨t, (qn : Int), rd nx (qn : Int)⟩ [.int .i64 t, .int .i64 (qn : Int), .int .i64 (rd nx (qn : Int))] (fun _ => True) (fun _ => False) rfl (by first | (go_simp; done) | (go_simp; rfl)) ?aP (fun _ hk => hk.elim) ?aF ?aO ?aB ?aS ?aL ?_; (case aP => exact k49_mkM _ _ _ _); (case aB => exact Below.grown HB5.out (grown4 _ _ _ _ _ _) (below_size HB5.out) (fun j hj => by cases hj; exact GE.out)); (case aF => exact (fun _ _ => trivial)); (case aO => exact R_grown HO5.out BK.out (by decide) (grown4 _ _ _ _ _ _)); (case aS => exact (below_size (Below.grown HB5.out (grown4 _ _ _ _ _ _) (below_size HB5.out) (fun j hj => by cases hj; exact GE.out)))); (case aL => have := HLO.out; omega); intro v6 w6 ho hb hg hat; have HP5b := (HP5.out.boxed BK.out (by decide) (by decide) (grown4 wb gi (.int .i64 (rd_T45 l0 (rd nx (qn : Int))).f0) (.int .i64 (rd_T45 l0 (rd nx (qn : Int))).f1) (.int .i64 (rd_T45 l0 (rd nx (qn : Int))).f2) (.int .i64 (rd_T45 l0 (rd nx (qn : Int))).f3)) (Kd.C_below HR0.out (Below.grown HB5.out (grown4 _ _ _ _ _ _) (below_size HB5.out) (fun j hj => by cases hj; exact GE.out)))); have HO5b := R_grown HO5.out BK.out (by decide) (grown4 wb gi (.int .i64 (rd_T45 l0 (rd nx (qn : Int))).f0) (.int .i64 (rd_T45 l0 (rd nx (qn : Int))).f1) (.int .i64 (rd_T45 l0 (rd nx (qn : Int))).f2) (.int .i64 (rd_T45 l0 (rd nx (qn : Int))).f3)); have HP6 := Aside0.mk (HP5b.appended HO5b hg (Kd.C_below HR0.out hb)); have BK6 := Aside0.mk (blk_grown (box4 BK.out (.int .i64 (rd_T45 l0 (rd nx (qn : Int))).f0) (.int .i64 (rd_T45 l0 (rd nx (qn : Int))).f1) (.int .i64 (rd_T45 l0 (rd nx (qn : Int))).f2) (.int .i64 (rd_T45 l0 (rd nx (qn : Int))).f3)) hg (Kd.R_ne HO5b (box4 BK.out (.int .i64 (rd_T45 l0 (rd nx (qn : Int))).f0) (.int .i64 (rd_T45 l0 (rd nx (qn : Int))).f1) (.int .i64 (rd_T45 l0 (rd nx (qn : Int))).f2) (.int .i64 (rd_T45 l0 (rd nx (qn : Int))).f3)) (by decide))); have HO6 := Aside0.mk ho; have HB6 := Aside0.mk hb; clear HP5b HO5b; clear ho hb hg hat HP5 HO5 HB5 BK s0 s1 s2 s3 s4 s5 hcz0 hcz1 hcz2 hcz3 hfz0 hfz1 hfz2 hfz3 ne1; have hcz0 := blk_cell BK6.out 0; have hcz1 := blk_cell BK6.out 1; have hcz2 := blk_cell BK6.out 2; have hcz3 := blk_cell BK6.out 3))
                                refine (spec_WritesReg.calls (rd_T45 l0 (rd nx (qn : Int))).f0 (rd_T45 l0 (rd nx (qn : Int))).f1 (rd_T45 l0 (rd nx (qn : Int))).f2 (rd_T45 l0 (rd nx (qn : Int))).f3 rr _ HWR.out).mono ?_
                                rintro e w7 ⟨rfl, hb7⟩
                                have HO7 := Aside0.mk (Kd.R_below HO6.out hb7)
                                have HP7 := Aside0.mk (HP6.out.below hb7)
                                have HB7 := Aside0.mk (below_step HB6.out hb7)
                                have BK7 := Aside0.mk ((hb7.block gi (blk_lt BK6.out)).trans BK6.out)
                                clear hb7 HO6 HP6 HB6 BK6 hcz0 hcz1 hcz2 hcz3
                                have hb2 := HBP.out
                                clear HBP
                                by_cases r0 : rr ≥ 0
                                · rw [if_pos r0] at hb2
                                  by_cases r4 : rr < 4
                                  · rw [if_pos r4] at hb2
                                    obtain ⟨dd, hdd, hb2⟩ := Option.bind_eq_some_iff.mp hb2
                                    have HDD := Aside0.mk hdd
                                    have HB2 := Aside0.mk (Option.some.inj hb2)
                                    have g1 : decide (0 ≤ rr) = true := decide_eq_true r0
                                    have g2 : decide (rr < 4) = true := decide_eq_true r4
                                    have FP := Aside0.mk (fun W' (hW : Below w7.heap.size w7 W') => HP7.out.below hW)
                                    have FS := Aside0.mk (fun W' (hW : Below w7.heap.size w7 W') => S22.of (HP7.out.below hW) q1 ((hW.block gi (blk_lt BK7.out)).trans BK7.out))
                                    have HB70 := Aside0.mk (below_drew1 (Below.refl w7.heap.size w7))
                                    have HNE := Aside0.mk (show gr ≠ g0 + qn ∧ gi ≠ g0 + qn from ⟨blk_neT HP7.out.r (show w7.heap[g0 + qn]? = some (.cells _ 3 (0, 0)) from HP7.out.b qn q1) (by decide), blk_neT BK7.out (show w7.heap[g0 + qn]? = some (.cells _ 3 (0, 0)) from HP7.out.b qn q1) (by decide)⟩)
                                    clear hdd hb2
                                    go_wp2_with fail
                                    go_region_held3 (fun w' => w'.cell? ⟨gr, qn, none⟩ = some (.slice (some ⟨g0 + qn, 0, none⟩) 4 4) ∧ w'.cell? ⟨gi, 0, none⟩ = some (.int .i64 (rd_T45 l0 (rd nx (qn : Int))).f0) ∧ w'.cell? ⟨gi, 1, none⟩ = some (.int .i64 (rd_T45 l0 (rd nx (qn : Int))).f1) ∧ w'.cell? ⟨gi, 2, none⟩ = some (.int .i64 (rd_T45 l0 (rd nx (qn : Int))).f2) ∧ w'.cell? ⟨gi, 3, none⟩ = some (.int .i64 (rd_T45 l0 (rd nx (qn : Int))).f3))
                                      (first | exact FS.out _ HB70.out | exact FS.out _ HA8.out | exact FS.out _ HD8.out | exact S22.far (FS.out _ HA8.out) _ _ _ HNE.out.1 HNE.out.2 | exact S22.far (FS.out _ HD8.out) _ _ _ HNE.out.1 HNE.out.2)
                                      (first
                                        | (go_at_call 73; refine (spec_WritesReg.calls _ _ _ _ rr _ HWR.out).mono ?_; rintro e wA ⟨rfl, hA0⟩; have HA8 := Aside0.mk (below_step (by first | exact HB70.out | exact HD8.out) hA0); clear hA0; have hcA := ((FP.out _ HA8.out).b qn q1).cell rr r0 (by rw [HBL.out]; omega); have hfA := blk_frozen ((FP.out _ HA8.out).b qn q1) rr.toNat)
                                        | (go_at_call 72; refine (spec_LatencyOf.calls _ _ _ _ dd _ HDD.out).mono ?_; rintro e wD ⟨rfl, hD0⟩; have HD8 := Aside0.mk (below_step (by first | exact HB70.out | exact HA8.out) hD0); clear hD0; have hcD := ((FP.out _ HD8.out).b qn q1).cell rr r0 (by rw [HBL.out]; omega); have hfD := blk_frozen ((FP.out _ HD8.out).b qn q1) rr.toNat))
                                    · have HB8 := Aside0.mk (below_step HB7.out HD8.out)
                                      have HP8 := Aside0.mk (FP.out _ HD8.out)
                                      have HO8 := Aside0.mk (Kd.R_below HO7.out HD8.out)
                                      have HB9 := Aside0.mk (below_set (j := rr.toNat) (v := .int .i64 (wrap64 (t + dd))) HB8.out (show w.heap.size ≤ g0 + qn by have := HG0.out; omega))
                                      have HP9 := Aside0.mk (HP8.out.putRow qn rr.toNat q1 (wrap64 (t + dd)) (Kd.C_below HR0.out HB9.out))
                                      have HO9 := Aside0.mk (R_grown HO8.out (show wD.heap[g0 + qn]? = some (.cells _ 3 (0, 0)) from HP8.out.b qn q1) (by decide) (grown_set wD (g0 + qn) rr.toNat (.int .i64 (wrap64 (t + dd)))))
                                      rw [HB2.out] at HP9
                                      rw [i64_w]
                                      generalize wD.setCell ⟨g0 + qn, rr.toNat, none⟩ (.int .i64 (wrap64 (t + dd))) = W9 at *
                                      clear HB8 HP8 HO8 FP FS HB70 HNE HO7 HP7 HB7 BK7
                                      have hy := HP9.out.a.cell (qn : Int) (by omega) (by rw [HP9.out.al]; omega)
                                      rw [Int.toNat_natCast] at hy
                                      have hf := blk_frozen HP9.out.a qn
                                      have z0 : 0 ≤ ((qn : Int) + 1) % (n : Int) := Int.emod_nonneg _ (by omega)
                                      have z1 : ((qn : Int) + 1) % (n : Int) < n := Int.emod_lt_of_pos _ (by omega)
                                      have HZ := Aside0.mk (show 0 ≤ ((qn : Int) + 1) % (n : Int) ∧ ((qn : Int) + 1) % (n : Int) ≤ 8 by omega)
                                      have HB10 := Aside0.mk (below_set (j := qn) (v := .int .i64 (rd nx (qn : Int) + 1)) HB9.out HGN.out)
                                      have HP10 := Aside0.mk (HP9.out.putNext qn (rd nx (qn : Int) + 1) (Kd.C_below HR0.out HB10.out))
                                      have HO10 := Aside0.mk (R_grown HO9.out (show W9.heap[gn]? = some (.cells _ 3 (0, 0)) from HP9.out.a) (by decide) (grown_set W9 gn qn (.int .i64 (rd nx (qn : Int) + 1))))
                                      go_wp2
                                      go_roundg k2
                                      case measure => have := HK2.out; omega
                                      case rel => exact ⟨_, _, _, _, wrap64 (t + 1), rfl, rfl, HN2, ⟨by have := HK.out; have := HK2.out; omega⟩, HZ, HO10, HP10, HB10⟩
                                  · rw [if_neg r4] at hb2; cases hb2
                                · rw [if_neg r0] at hb2
                                  obtain rfl := Option.some.inj hb2
                                  have g1 : decide (0 ≤ rr) = false := decide_eq_false (by omega)
                                  have HN3 := HN2.out
                                  rw [set_same B qn] at HN3
                                  have HN2 := Aside0.mk HN3
                                  have HP9 := HP7
                                  have HO9 := HO7
                                  have HB9 := HB7
                                  clear HN3 HP7 HO7 HB7 BK7
                                  generalize w7 = W9 at *
                                  have hy := HP9.out.a.cell (qn : Int) (by omega) (by rw [HP9.out.al]; omega)
                                  rw [Int.toNat_natCast] at hy
                                  have hf := blk_frozen HP9.out.a qn
                                  have z0 : 0 ≤ ((qn : Int) + 1) % (n : Int) := Int.emod_nonneg _ (by omega)
                                  have z1 : ((qn : Int) + 1) % (n : Int) < n := Int.emod_lt_of_pos _ (by omega)
                                  have HZ := Aside0.mk (show 0 ≤ ((qn : Int) + 1) % (n : Int) ∧ ((qn : Int) + 1) % (n : Int) ≤ 8 by omega)
                                  have HB10 := Aside0.mk (below_set (j := qn) (v := .int .i64 (rd nx (qn : Int) + 1)) HB9.out HGN.out)
                                  have HP10 := Aside0.mk (HP9.out.putNext qn (rd nx (qn : Int) + 1) (Kd.C_below HR0.out HB10.out))
                                  have HO10 := Aside0.mk (R_grown HO9.out (show W9.heap[gn]? = some (.cells _ 3 (0, 0)) from HP9.out.a) (by decide) (grown_set W9 gn qn (.int .i64 (rd nx (qn : Int) + 1))))
                                  go_wp2
                                  go_roundg k2
                                  case measure => have := HK2.out; omega
                                  case rel => exact ⟨_, _, _, _, wrap64 (t + 1), rfl, rfl, HN2, ⟨by have := HK.out; have := HK2.out; omega⟩, HZ, HO10, HP10, HB10⟩
                              · rw [if_neg c6] at H; cases H
                          · rw [if_neg e3] at H; cases H
                        · rw [if_neg e2] at H; cases H
                  · rw [if_neg c2] at H
                    have HN2 := Aside0.mk H
                    have d3 : decide (j < (n : Int)) = false := decide_eq_false c2
                    clear H c2
                    go_wp2
                    go_roundg k2
                    case measure => have := HK2.out; omega
                    case rel => exact ⟨out, B, nx, fr, wrap64 (t + 1), rfl, rfl, HN2, ⟨by have := HK.out; have := HK2.out; omega⟩, HFR, HO, HP, HB⟩
            · rw [if_neg c1] at H
              have HR9 := Aside0.mk (Option.some.inj H)
              have d2 : decide ((out.length : Int) < (n : Int) * (l0.length : Int)) = false := decide_eq_false c1
              clear H c1
              go_wp2
              go_ret
              exact ⟨_, rfl, by rw [← HR9.out]; exact HO.out, HB.out⟩
  · rw [if_neg hall] at h; cases h

end Go.Proofs.Ytopckcppmpmcnaa.Q
