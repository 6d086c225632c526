/- The statement FnExactFormatBlock: the program's function answers true for every input, by its printed contract and the pure statement of YtmnkbchieplicaaGreatDoorLFnExactFormatBlock. Conditions: none. -/
import Derived.Test.YtmnkbchieplicaaGreatDoorKFnExactFormatBlock46
import Derived.Test.YtmnkbchieplicaaGreatDoorRows
import Derived.Test.YtmnkbchieplicaaGreatDoorClosedFnExactFormatBlock
import Derived.Test.YtmnkbchieplicaaGreatDoorCards
import Derived.Test.YtmnkbchieplicaaGreatDoorTie
import Derived.WalkKit
import Derived.ProofKit
import Derived.OpenShut
import Derived.ShutString
import Derived.ChangeOld
import Derived.Below
import Derived.SizedLaws
import Derived.Lib.SmallJoins
import Derived.LaidMore
import Derived.MakeChecks
import Derived.Stop.LaidErr
import Derived.SevenTiedAt
namespace Go.Proofs.YtmnkbchieplicaaGreatDoor.fnExactFormatBlock
open Go.ChangeShapes Go.WideShapes Go.ChangeAt Go.RowKit Go.Joins Go.Deep
open Go.ChangeMaps (open_string shut_string)
open Go.Proofs.YtmnkbchieplicaaGreatDoorW.PrintWords Go.Proofs.YtmnkbchieplicaaGreatDoorW.PrintLast
set_option linter.unusedVariables false
theorem own : ownKnob Tryz.prog.godebug = none := by kernel_rfl
theorem laidOut : laidOutB Tryz.prog = true := by kernel_rfl
theorem laidName : (Rows.fnExactFormatBlockRow.laid.all fun x => x.2.handleName?.isNone) = true := by kernel_rfl
theorem powData : (Rows.laid_internal_strconv_uint64pow10 : DataW Unit) = Lib.tabData .u64 Lib.pow10Tab := by kernel_rfl
theorem powSome : (Tryz.prog.globalNamed "internal/strconv.uint64pow10").isSome = true := by kernel_rfl
theorem powIs {W : World} (h : laidMetH Tryz.prog Rows.fnExactFormatBlockRow.laid W) : Go.Proofs.YtmnkbchieplicaaGreatDoor.Q.PowIs W := by
  rw [MakeChecks.laidMetH_plain _ _ _ laidName] at h
  have hM : laidMet Tryz.prog [("math/bits.deBruijn32tab", Rows.laid_math_bits_deBruijn32tab), ("math/bits.deBruijn64tab", Rows.laid_math_bits_deBruijn64tab), ("internal/strconv.uint64pow10", Rows.laid_internal_strconv_uint64pow10)] W := h
  have hT := hM.tail.tail
  rw [powData] at hT
  exact Lib.tabIs_of_head (P := Tryz.prog) (g := 2) (t := 192) (n := 20) (e := 164) (by kernel_rfl) (by kernel_rfl) Tryz.underlying192 Tryz.underlying164 (by kernel_rfl) (by kernel_rfl) hT
theorem door_met (os : Os) (args : Array Value) : laidMetH Tryz.prog Rows.fnExactFormatBlockRow.laid ((World.doorLaid Tryz.prog 400 os).forCall (fun _ _ => 0) ⟨#[], args, []⟩).memory :=
  laidMetH_of_parts3 (fuel := 8) (laidMet_of_run' 8 (by kernel_rfl) (by kernel_rfl)) (by kernel_rfl) (by kernel_rfl)
set_option maxRecDepth 100000 in
theorem lifted (os : Os) (started : os.Started) (H : Type) (enc : TypeId × Value → H) :
    ReturnsInHanded {} Tryz.checked os 3 .any (fun w args => (Rows.fnExactFormatBlockSpec.pre enc Tryz.prog Tryz.f3 [] false w args ∧ laidMetH Tryz.prog Rows.fnExactFormatBlockRow.laid w) ∧ sizedMet enc Tryz.prog Tryz.f3 (OpenSpec.ofChange Rows.fnExactFormatBlockSpec) false w args) (Rows.fnExactFormatBlockSpec.post enc Tryz.prog Tryz.f3 false true false false) := by
  refine returnsInHanded_of_change_and (C := Tryz.checked) (X := fun w _ => laidMetH Tryz.prog Rows.fnExactFormatBlockRow.laid w) (fun _ _ _ hh h => h.of_heap hh) own started (by kernel_rfl) Tryz.func3
    (ChangeSpec.witness_shaped (enc := enc) (C := Tryz.checked) (os := os) (X := fun w _ => laidMetH Tryz.prog Rows.fnExactFormatBlockRow.laid w) false (World.doorLaid Tryz.prog 400 os) #[.agg #[.slice none 0 0, .slice none 0 0, .slice none 0 0, .int .i64 0, .int .i64 0]] 8 rfl (World.shaped_of_RefB (by kernel_rfl) (by kernel_rfl)) (by kernel_rfl) (by kernel_rfl) (by kernel_rfl) (door_met os _)) ?_
  intro W base args ds gs before hval0 hW hcnd hsz0 hL _
  have hsz : (DataW.weightsEach Tryz.prog (Tryz.f3.params.toList ++ Rows.fnExactFormatBlockSpec.plain.varTypes Tryz.prog) (ds ++ gs)).all (· ≤ reachBytes) = true := hsz0
  have hval : ∀ (j : Nat) t v, Tryz.f3.params[j]? = some t → args[j]? = some v → Value.okWide Tryz.prog W .any base t v := hval0
  have hW' := hW
  obtain ⟨p, q, hA0, hV, rfl, hfz, hnd⟩ := hW
  have hA : DataW.TrodAll enc Tryz.prog W 0 (fun _ => true) true Tryz.f3.params.toList args.toList ds p := hA0
  rw [Tryz.params3] at hA hval hsz
  obtain ⟨v0, vs0, d0, ds0, p0, q0, hargs, rfl, rfl, h0, r0⟩ := trodAll_cons hA
  obtain ⟨rfl, rfl, rfl⟩ := trodAll_nil r0
  obtain rfl : args = #[v0] := by cases args; simp_all
  obtain ⟨rfl, rfl⟩ := trodVars_none hV
  have k0 := h0
  have lt0 : ∀ x ∈ p0, x.block < W.heap.size := by obtain ⟨m, hm⟩ := k0; exact DataW.trod_lt m _ _ _ hm
  obtain ⟨A0_0, c0_0, l0_0, A0_1, c0_1, l0_1, A0_2, c0_2, l0_2, a0_3, a0_4, rfl, hr0_0, hc0_0, hm0_0, hr0_1, hc0_1, hm0_1, ho0_1, hr0_2, hc0_2, hm0_2⟩ := Go.Proofs.YtmnkbchieplicaaGreatDoor.Q.open_block (hval 0 26 v0 rfl rfl) h0
  clear hA0 hval0 hsz0 hsz
  obtain ⟨k, hk⟩ := YtmnkbchieplicaaGreatDoor.Q.FnExactFormatBlock l0_0 l0_1 l0_2 a0_3 a0_4 hm0_0 hm0_1 ho0_1 hm0_2
  refine (YtmnkbchieplicaaGreatDoor.Q.laws_FnExactFormatBlock.calls k _ _ l0_0 _ _ l0_1 _ _ l0_2 a0_3 a0_4 true W hr0_0 hc0_0 hr0_1 hc0_1 hr0_2 hc0_2 hk (powIs hL)).mono fun e W' ⟨he, bel0⟩ => ?_
  have bel : Below W.heap.size W W' := bel0
  subst he
  exact ⟨_, rfl, _, _, _, [], _, [], hW', trodAll_mk1 (shut_bool Tryz.underlying4 _), (trodAll_cons_mk (Below.trod laidOut (by kernel_rfl) (of_decide_eq_true (by kernel_rfl)) k0 bel lt0) trodAll_mk0), rfl, bel.frame _, fun h => by cases h⟩
theorem over : Rows.fnExactFormatBlockRow.holds Tryz.pinned (OpenSpec.ofChange Rows.fnExactFormatBlockSpec) :=
  OpenClaim.holds_of_wide 3 Tryz.f3 rfl rfl rfl rfl rfl rfl rfl ⟨rfl, rfl, rfl, rfl, rfl⟩ rfl rfl rfl rfl rfl (by kernel_rfl) Tryz.func3 closed
    (of_decide_eq_true (by kernel_rfl)) (by unfold Func.isWrapper; first | (rw [if_pos (by decide +kernel)]; kernel_rfl) | (rw [if_neg (by decide +kernel)]; exact ⟨rfl, rfl⟩))
    (fun os started H enc _ => lifted os started H enc)
end Go.Proofs.YtmnkbchieplicaaGreatDoor.fnExactFormatBlock
namespace Go.Proofs.YtmnkbchieplicaaGreatDoor
theorem fnExactFormatBlock_holds : Rows.FnExactFormatBlockSaid := fnExactFormatBlock.over
theorem fnExactFormatBlockCard_holds : Rows.FnExactFormatBlockCardSaid :=
  Claim7.holds_tied_plain_at .later [] [.data, .data, .data] true (true, "84becdc81413b6048c5cf11bc678ab7b0b2b6c4fdcb7611c2674531eb70e6bd7") true fnExactFormatBlock_holds (fun _ h => by cases h) (by kernel_rfl) (fun _ h => by cases h) fnExactFormatBlock_row_tie rfl ⟨rfl, rfl⟩ (by kernel_rfl) rfl
    (fun f fn hf hfn => by
      obtain rfl : f = 3 := Option.some.inj ((show Tryz.prog.funcNamed "loop.example/g00985/laws.FnExactFormatBlock" = some 3 by kernel_rfl).symm.trans hf) |>.symm
      obtain rfl : fn = Tryz.f3 := (Option.some.inj (Tryz.func3.symm.trans hfn)).symm
      exact ⟨by kernel_rfl, fun j t ht => by
        rw [Tryz.params3] at ht
        have hm : t ∈ [26] := by simpa using Array.mem_of_getElem? ht
        have hall : ([26].all fun u => !Tryz.prog.wantsStandIn u) = true := by kernel_rfl
        exact (show Tryz.prog.wantsStandIn t = false by simpa using List.all_eq_true.1 hall t hm)⟩)
    (by kernel_rfl)
#print axioms fnExactFormatBlockCard_holds
end Go.Proofs.YtmnkbchieplicaaGreatDoor