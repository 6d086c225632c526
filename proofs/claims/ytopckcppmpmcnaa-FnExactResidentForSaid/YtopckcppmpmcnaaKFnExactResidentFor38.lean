/- The statement FnExactResidentFor: the program's function answers true for every input, by its printed contract and the pure statement of YtopckcppmpmcnaaLFnExactResidentFor. Conditions: none. -/
import Derived.Test.YtopckcppmpmcnaaKFnExactResidentFor37
import Derived.Test.YtopckcppmpmcnaaRows
import Derived.Test.YtopckcppmpmcnaaClosedFnExactResidentFor
import Derived.WalkKit
import Derived.ProofKit
import Derived.OpenShut
import Derived.ShutString
import Derived.ChangeOld
import Derived.Below
import Derived.SizedLaws
import Derived.Lib.SmallJoins
namespace Go.Proofs.Ytopckcppmpmcnaa.fnExactResidentFor
open Go.ChangeShapes Go.WideShapes Go.ChangeAt Go.RowKit Go.Joins Go.Deep
open Go.ChangeMaps (open_string shut_string)
open Go.Proofs.YtopckcppmpmcnaaW.PrintWords Go.Proofs.YtopckcppmpmcnaaW.PrintLast
set_option linter.unusedVariables false
theorem own : ownKnob Try.prog.godebug = none := by kernel_rfl
theorem laidOut : laidOutB Try.prog = true := by kernel_rfl
open Go.Proofs.Ytopckcppmpmcnaa.Q in
set_option maxRecDepth 100000 in
theorem opens63 {H : Type} (enc : TypeId × Value → H) (W : World) (sp : Nat → Bool) : Opens k63 Try.prog enc W sp 63 (fun x => (Lit.int .i64 x.f0).wf = true ∧ (Lit.int .i64 x.f1).wf = true ∧ (Lit.int .i64 x.f2).wf = true ∧ (Lit.int .i64 x.f3).wf = true) := by
  intro n cs y h
  obtain ⟨y0, y1, y2, y3, m, _, hl, h0, h1, h2, h3⟩ := trod_struct4 Try.underlying63 h
  have hl' : cs.length = 4 := hl.trans (by kernel_rfl)
  match cs, hl' with
  | [c0, c1, c2, c3], _ =>
    obtain ⟨a0, e0, _, w0⟩ := DataW.trod_int Try.underlying3 h0
    obtain rfl : c0 = .int .i64 a0 := by have q : ([c0] : List Value) = [.int .i64 a0] := e0; simpa using q
    obtain ⟨a1, e1, _, w1⟩ := DataW.trod_int Try.underlying3 h1
    obtain rfl : c1 = .int .i64 a1 := by have q : ([c1] : List Value) = [.int .i64 a1] := e1; simpa using q
    obtain ⟨a2, e2, _, w2⟩ := DataW.trod_int Try.underlying3 h2
    obtain rfl : c2 = .int .i64 a2 := by have q : ([c2] : List Value) = [.int .i64 a2] := e2; simpa using q
    obtain ⟨a3, e3, _, w3⟩ := DataW.trod_int Try.underlying3 h3
    obtain rfl : c3 = .int .i64 a3 := by have q : ([c3] : List Value) = [.int .i64 a3] := e3; simpa using q
    exact ⟨⟨a0, a1, a2, a3⟩, k63_mk W ⟨a0, a1, a2, a3⟩, w0, w1, w2, w3⟩
set_option maxRecDepth 100000 in
theorem lifted (os : Os) (started : os.Started) (H : Type) (enc : TypeId × Value → H) :
    ReturnsInHanded {} Try.checked os 9 .any (Rows.fnExactResidentForSpec.pre6 enc Try.prog Try.f9 Rows.fnExactResidentForRow.domain false) (Rows.fnExactResidentForSpec.post enc Try.prog Try.f9 false true false false) := by
  refine returnsInHanded_of_change_sized (C := Try.checked) own started (by kernel_rfl) Try.func9
    (ChangeSpec.witness6 (enc := enc) (C := Try.checked) false ⟨#[], #[.slice none 0 0], []⟩ 8 (by kernel_rfl) (by kernel_rfl) (by kernel_rfl) (by kernel_rfl)) ?_
  intro W base args ds gs before hval0 hW hcnd hsz0 _
  have hsz : (DataW.weightsEach Try.prog (Try.f9.params.toList ++ Rows.fnExactResidentForSpec.plain.varTypes Try.prog) (ds ++ gs)).all (· ≤ reachBytes) = true := hsz0
  have hval : ∀ (j : Nat) t v, Try.f9.params[j]? = some t → args[j]? = some v → Value.okWide Try.prog W .any base t v := hval0
  have hW' := hW
  obtain ⟨p, q, hA0, hV, rfl, hfz, hnd⟩ := hW
  have hA : DataW.TrodAll enc Try.prog W 0 (fun _ => true) true Try.f9.params.toList args.toList ds p := hA0
  rw [Try.params9] at hA hval hsz
  obtain ⟨v0, vs0, d0, ds0, p0, q0, hargs, rfl, rfl, h0, r0⟩ := trodAll_cons hA
  obtain ⟨rfl, rfl, rfl⟩ := trodAll_nil r0
  obtain rfl : args = #[v0] := by cases args; simp_all
  obtain ⟨rfl, rfl⟩ := trodVars_none hV
  obtain ⟨a0, len0, cap0, rfl⟩ := okWide_slice Try.underlying22 (hval 0 22 v0 rfl rfl)
  have k0 := h0
  have lt0 : ∀ x ∈ p0, x.block < W.heap.size := by obtain ⟨m, hm⟩ := k0; exact DataW.trod_lt m _ _ _ hm
  obtain ⟨l0, rfl, hc0, hm0, hr0, hw0⟩ := (by obtain ⟨m, hm⟩ := h0; exact Go.Proofs.Ytopckcppmpmcnaa.Q.open_rows Try.underlying22 (by kernel_rfl) (opens63 enc W _) hm : ∃ xs : List Go.Proofs.Ytopckcppmpmcnaa.Q.S63, xs.length = len0 ∧ len0 ≤ cap0 ∧ len0 ≤ maxLen ∧ Kd.C Go.Proofs.Ytopckcppmpmcnaa.Q.k63 W a0 len0 xs ∧ ∀ x ∈ xs, (Lit.int .i64 x.f0).wf = true ∧ (Lit.int .i64 x.f1).wf = true ∧ (Lit.int .i64 x.f2).wf = true ∧ (Lit.int .i64 x.f3).wf = true)
  clear hA0 hval0 hsz0 hsz
  obtain ⟨k, hk⟩ := Ytopckcppmpmcnaa.Q.FnExactResidentFor l0 hm0 hw0
  refine (Ytopckcppmpmcnaa.Q.laws_FnExactResidentFor.calls k _ _ l0 true W hr0 hc0 hk).mono fun e W' ⟨he, bel0⟩ => ?_
  have bel : Below W.heap.size W W' := bel0
  subst he
  exact ⟨_, rfl, _, _, _, [], _, [], hW', trodAll_mk1 (shut_bool Try.underlying4 _), (trodAll_cons_mk (Below.trod laidOut (by kernel_rfl) (of_decide_eq_true (by kernel_rfl)) k0 bel lt0) trodAll_mk0), rfl, bel.frame _, fun h => by cases h⟩
theorem over : Rows.fnExactResidentForRow.holds Try.pinned (OpenSpec.ofChange Rows.fnExactResidentForSpec) :=
  OpenClaim.holds_of_wide 9 Try.f9 rfl rfl rfl rfl rfl rfl rfl ⟨rfl, rfl, rfl, rfl, rfl⟩ rfl rfl rfl rfl rfl (by kernel_rfl) Try.func9 closed
    (of_decide_eq_true (by kernel_rfl)) (by unfold Func.isWrapper; first | (rw [if_pos (by decide +kernel)]; kernel_rfl) | (rw [if_neg (by decide +kernel)]; exact ⟨rfl, rfl⟩))
    (fun os started H enc _ => lifted os started H enc)
end Go.Proofs.Ytopckcppmpmcnaa.fnExactResidentFor
namespace Go.Proofs.Ytopckcppmpmcnaa
theorem fnExactResidentFor_holds : Rows.FnExactResidentForSaid := fnExactResidentFor.over
#print axioms fnExactResidentFor_holds
end Go.Proofs.Ytopckcppmpmcnaa
