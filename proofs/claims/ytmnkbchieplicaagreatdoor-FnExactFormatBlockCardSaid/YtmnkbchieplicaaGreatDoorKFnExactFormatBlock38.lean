/- How an argument that is a block of the laws' own is read. -/
import Derived.Test.YtmnkbchieplicaaGreatDoorKFnExactFormatBlock37
namespace Go.Proofs.YtmnkbchieplicaaGreatDoor.Q
open Go Go.RowKit Go.Joins Go.Deep Go.WideShapes Go.Proofs.YtmnkbchieplicaaGreatDoorW.PrintWords Go.Proofs.YtmnkbchieplicaaGreatDoorW.PrintLast Go.Proofs.YtmnkbchieplicaaGreatDoorW.PrintMore
set_option linter.unusedVariables false
set_option linter.unusedSimpArgs false

theorem open_agg5 {H : Type} {enc : TypeId × Value → H} {P : Program} {w : World} {base : Nat} {spare : Nat → Bool} {held : Bool} {r : Reach} {b0 : Nat} {t : TypeId} {f0 f1 f2 f3 f4 : Field} {v : Value} {d : DataW H} {p : List MemPlace} (hs : P.underlying t = some (.struct #[f0, f1, f2, f3, f4])) (hone : oneCellFields P #[f0, f1, f2, f3, f4] = true) (hC : P.cellsOf t = 5)
    (hv : Value.okWide P w r b0 t v) (h : DataW.Trod enc P w base spare held t v d p) :
    ∃ (v0 v1 v2 v3 v4 : Value) (y0 y1 y2 y3 y4 : DataW H × List MemPlace) (n : Nat), v = .agg #[v0, v1, v2, v3, v4] ∧
      DataW.trod enc P w base spare held n f0.type [v0] = some y0 ∧ DataW.trod enc P w base spare held n f1.type [v1] = some y1 ∧ DataW.trod enc P w base spare held n f2.type [v2] = some y2 ∧ DataW.trod enc P w base spare held n f3.type [v3] = some y3 ∧ DataW.trod enc P w base spare held n f4.type [v4] = some y4 := by
  obtain ⟨cs, rfl, hsz⟩ := okWide_struct hs hv
  have h5 : ∃ c0 c1 c2 c3 c4, cs = #[c0, c1, c2, c3, c4] := by
    obtain ⟨l⟩ := cs
    match l, hsz.trans hC with
    | [c0, c1, c2, c3, c4], _ => exact ⟨c0, c1, c2, c3, c4, rfl⟩
  obtain ⟨c0, c1, c2, c3, c4, rfl⟩ := h5
  obtain ⟨fuel, hf⟩ := h
  obtain ⟨xs, n, _, _, hl, hlen, hf⟩ := DataW.trod_struct hs hf
  have hx : ∃ y0 y1 y2 y3 y4, xs = [y0, y1, y2, y3, y4] := by
    match xs, hlen with
    | [y0, y1, y2, y3, y4], _ => exact ⟨y0, y1, y2, y3, y4, rfl⟩
  obtain ⟨y0, y1, y2, y3, y4, rfl⟩ := hx
  obtain ⟨o0, k0⟩ := hone_of hone 0 f0 rfl
  obtain ⟨o1, k1⟩ := hone_of hone 1 f1 rfl
  obtain ⟨o2, k2⟩ := hone_of hone 2 f2 rfl
  obtain ⟨o3, k3⟩ := hone_of hone 3 f3 rfl
  obtain ⟨o4, k4⟩ := hone_of hone 4 f4 rfl
  exact ⟨c0, c1, c2, c3, c4, y0, y1, y2, y3, y4, n, rfl, by simpa [Value.cells, o0, k0] using hf 0 f0 rfl, by simpa [Value.cells, o1, k1] using hf 1 f1 rfl, by simpa [Value.cells, o2, k2] using hf 2 f2 rfl, by simpa [Value.cells, o3, k3] using hf 3 f3 rfl, by simpa [Value.cells, o4, k4] using hf 4 f4 rfl⟩
theorem opens_int {H : Type} {enc : TypeId × Value → H} {P : Program} {W : World} {sp : Nat → Bool} {e : TypeId} (he : P.underlying e = some (.int .i64)) : Opens (Kd.int .i64) P enc W sp e (fun x => (Lit.int .i64 x).wf = true) := by
  intro n cs y h
  obtain ⟨a, e0, _, w0⟩ := DataW.trod_int he h
  exact ⟨a, by rw [e0]; rfl, w0⟩
set_option maxRecDepth 100000 in
theorem opensIns {H : Type} (enc : TypeId × Value → H) (W : World) (sp : Nat → Bool) : Opens k97 Tryz.prog enc W sp 97 (fun x => True) := by
  intro n cs y h
  obtain ⟨y0, y1, y2, y3, m, _, hl, h0, h1, h2, h3⟩ := trod_struct4 Tryz.underlying97 h
  have hl' : cs.length = 4 := hl.trans (by kernel_rfl)
  match cs, hl' with
  | [c0, c1, c2, c3], _ =>
    obtain ⟨a0, e0, _, w0⟩ := DataW.trod_int Tryz.underlying3 h0
    obtain rfl : c0 = .int .i64 a0 := by have q : ([c0] : List Value) = [.int .i64 a0] := e0; simpa using q
    obtain ⟨a1, e1, _, w1⟩ := DataW.trod_int Tryz.underlying3 h1
    obtain rfl : c1 = .int .i64 a1 := by have q : ([c1] : List Value) = [.int .i64 a1] := e1; simpa using q
    obtain ⟨a2, e2, _, w2⟩ := DataW.trod_int Tryz.underlying3 h2
    obtain rfl : c2 = .int .i64 a2 := by have q : ([c2] : List Value) = [.int .i64 a2] := e2; simpa using q
    obtain ⟨a3, e3, _, w3⟩ := DataW.trod_int Tryz.underlying3 h3
    obtain rfl : c3 = .int .i64 a3 := by have q : ([c3] : List Value) = [.int .i64 a3] := e3; simpa using q
    exact ⟨⟨a0, a1, a2, a3⟩, k97_mk W ⟨a0, a1, a2, a3⟩, trivial⟩
set_option maxRecDepth 100000 in
theorem opensFrm {H : Type} (enc : TypeId × Value → H) (W : World) (sp : Nat → Bool) : Opens k155 Tryz.prog enc W sp 155 (fun x => True) := by
  intro n cs y h
  obtain ⟨y0, y1, y2, m, _, hl, h0, h1, h2⟩ := trod_struct3 Tryz.underlying155 h
  have hl' : cs.length = 3 := hl.trans (by kernel_rfl)
  match cs, hl' with
  | [c0, c1, c2], _ =>
    obtain ⟨a0, e0, _, w0⟩ := DataW.trod_int Tryz.underlying3 h0
    obtain rfl : c0 = .int .i64 a0 := by have q : ([c0] : List Value) = [.int .i64 a0] := e0; simpa using q
    obtain ⟨a1, e1, _, w1⟩ := DataW.trod_int Tryz.underlying3 h1
    obtain rfl : c1 = .int .i64 a1 := by have q : ([c1] : List Value) = [.int .i64 a1] := e1; simpa using q
    obtain ⟨a2, e2, _, w2⟩ := DataW.trod_int Tryz.underlying3 h2
    obtain rfl : c2 = .int .i64 a2 := by have q : ([c2] : List Value) = [.int .i64 a2] := e2; simpa using q
    exact ⟨⟨a0, a1, a2⟩, k155_mk W ⟨a0, a1, a2⟩, trivial⟩
set_option maxRecDepth 100000 in
theorem opensWrp {H : Type} (enc : TypeId × Value → H) (W : World) (sp : Nat → Bool) : Opens k87 Tryz.prog enc W sp 87 (fun x => x.f1.length ≤ maxLen ∧ x.f2.length ≤ maxLen) := by
  intro n cs y h
  obtain ⟨y0, y1, y2, m, _, hl, h0, h1, h2⟩ := trod_struct3 Tryz.underlying87 h
  have hl' : cs.length = 3 := hl.trans (by kernel_rfl)
  match cs, hl' with
  | [c0, c1, c2], _ =>
    obtain ⟨a0, e0, _, w0⟩ := DataW.trod_int Tryz.underlying3 h0
    obtain rfl : c0 = .int .i64 a0 := by have q : ([c0] : List Value) = [.int .i64 a0] := e0; simpa using q
    have h1' : DataW.trod enc Tryz.prog W 0 sp true m 85 [c1] = some y1 := h1
    have h2' : DataW.trod enc Tryz.prog W 0 sp true m 24 [c2] = some y2 := h2
    obtain ⟨A1, n1, k1, e1⟩ := slice_form Tryz.underlying85 h1'
    obtain ⟨A2, n2, k2, e2⟩ := slice_form Tryz.underlying24 h2'
    obtain rfl : c1 = .slice A1 n1 k1 := by simpa using e1
    obtain rfl : c2 = .slice A2 n2 k2 := by simpa using e2
    obtain ⟨l1, rfl, g1, g2, g3, -⟩ := open_rows Tryz.underlying85 (by kernel_rfl) (opensFrm enc W sp) h1'
    obtain ⟨l2, rfl, q1, q2, q3, -⟩ := open_rows Tryz.underlying24 (by kernel_rfl) (opens_int Tryz.underlying3) h2'
    exact ⟨⟨a0, l1, l2⟩, k87_mk W ⟨a0, l1, l2⟩ g1 g3 q1 q3, g2, q2⟩
set_option maxRecDepth 100000 in
theorem open_block {H : Type} {enc : TypeId × Value → H} {W : World} {sp : Nat → Bool} {r : Reach} {b0 : Nat} {v : Value} {d : DataW H} {p : List MemPlace} (hv : Value.okWide Tryz.prog W r b0 26 v) (h : DataW.Trod enc Tryz.prog W 0 sp true 26 v d p) :
    ∃ (A0 : Option Addr) (c0 : Nat) (l0 : List S97) (A1 : Option Addr) (c1 : Nat) (l1 : List S87) (A2 : Option Addr) (c2 : Nat) (l2 : List Int) (a3 a4 : Int), v = .agg #[.slice A0 l0.length c0, .slice A1 l1.length c1, .slice A2 l2.length c2, .int .i64 a3, .int .i64 a4] ∧
      Kd.C k97 W A0 l0.length l0 ∧ l0.length ≤ c0 ∧ l0.length ≤ maxLen ∧ Kd.C k87 W A1 l1.length l1 ∧ l1.length ≤ c1 ∧ l1.length ≤ maxLen ∧ okLens l1 ∧ Kd.C (Kd.int .i64) W A2 l2.length l2 ∧ l2.length ≤ c2 ∧ l2.length ≤ maxLen := by
  obtain ⟨v0, v1, v2, v3, v4, y0, y1, y2, y3, y4, n, rfl, h0, h1, h2, h3, h4⟩ := open_agg5 Tryz.underlying26 (by kernel_rfl) (by kernel_rfl) hv h
  have h0' : DataW.trod enc Tryz.prog W 0 sp true n 22 [v0] = some y0 := h0
  have h1' : DataW.trod enc Tryz.prog W 0 sp true n 23 [v1] = some y1 := h1
  have h2' : DataW.trod enc Tryz.prog W 0 sp true n 24 [v2] = some y2 := h2
  obtain ⟨A0, n0, k0, e0⟩ := slice_form Tryz.underlying22 h0'
  obtain ⟨A1, n1, k1, e1⟩ := slice_form Tryz.underlying23 h1'
  obtain ⟨A2, n2, k2, e2⟩ := slice_form Tryz.underlying24 h2'
  obtain rfl : v0 = .slice A0 n0 k0 := by simpa using e0
  obtain rfl : v1 = .slice A1 n1 k1 := by simpa using e1
  obtain rfl : v2 = .slice A2 n2 k2 := by simpa using e2
  obtain ⟨l0, rfl, p1, p2, p3, -⟩ := open_rows Tryz.underlying22 (by kernel_rfl) (opensIns enc W sp) h0'
  obtain ⟨l1, rfl, g1, g2, g3, g4⟩ := open_rows Tryz.underlying23 (by kernel_rfl) (opensWrp enc W sp) h1'
  obtain ⟨l2, rfl, q1, q2, q3, -⟩ := open_rows Tryz.underlying24 (by kernel_rfl) (opens_int Tryz.underlying3) h2'
  obtain ⟨a3, e3, _, w3⟩ := DataW.trod_int Tryz.underlying3 h3
  obtain rfl : v3 = .int .i64 a3 := by have q : ([v3] : List Value) = [.int .i64 a3] := e3; simpa using q
  obtain ⟨a4, e4, _, w4⟩ := DataW.trod_int Tryz.underlying3 h4
  obtain rfl : v4 = .int .i64 a4 := by have q : ([v4] : List Value) = [.int .i64 a4] := e4; simpa using q
  exact ⟨A0, k0, l0, A1, k1, l1, A2, k2, l2, a3, a4, rfl, p3, p1, p2, g3, g1, g2, g4, q3, q1, q2⟩

end Go.Proofs.YtmnkbchieplicaaGreatDoor.Q
