/- Contracts of functions of the program and of the laws, written by program out of the translation; conditions: as each theorem says. -/
import Derived.Test.YtopckcppmpmcnaaKFnHiding26
namespace Go.Proofs.Ytopckcppmpmcnaa.Q
open Go.RowKit Go.Proofs.YtopckcppmpmcnaaW.PrintWords Go.Proofs.YtopckcppmpmcnaaW.PrintLast Go.Proofs.YtopckcppmpmcnaaW.PrintMore
attribute [local go_sem] max2_int min2_int max_two min_two max_three min_three max_four min_four   -- for this text's walks alone
set_option linter.unusedVariables false
set_option linter.unusedSimpArgs false

/-! ### laws_FnHiding: function 11 -/
mutual
def laws_FnHiding.l0 : Nat → List (S45) → Int → List Int → List (S49) → List (S49) → Int → Option (Bool)
 | 0, _, _, _, _, _, _ => none
 | k + 1, x3, x5, x6, x7, x8, x9 => if x9 < x5 then ((impl_WarpTimes.f k x7 x9).bind fun t711 => ((impl_WarpTimes.f k x8 x9).bind fun t714 => (if (t711.length : Int) = (x3.length : Int) then (if (t714.length : Int) = (x3.length : Int) then (laws_FnHiding.j1 k x3 x5 x6 x7 x8 x9 t711 t714 ((x6.length : Int) != (x3.length : Int))) else (laws_FnHiding.j1 k x3 x5 x6 x7 x8 x9 t711 t714 true)) else (laws_FnHiding.j1 k x3 x5 x6 x7 x8 x9 t711 t714 true)))) else ((impl_ResidentFor.f k x3).bind fun t710 => (some (t710 != 0)))
def laws_FnHiding.j1 : Nat → List (S45) → Int → List Int → List (S49) → List (S49) → Int → List Int → List Int → Bool → Option (Bool)
 | 0, _, _, _, _, _, _, _, _, _ => none
 | k + 1, x3, x5, x6, x7, x8, x9, x10, x11, x61 => if x61 = true then (some false) else (laws_FnHiding.l1 k x3 x5 x6 x7 x8 x9 x10 x11 0)
def laws_FnHiding.l1 : Nat → List (S45) → Int → List Int → List (S49) → List (S49) → Int → List Int → List Int → Int → Option (Bool)
 | 0, _, _, _, _, _, _, _, _, _ => none
 | k + 1, x3, x5, x6, x7, x8, x9, x10, x11, x12 => if x12 < (x3.length : Int) then (if 0 ≤ x12 then (if x12 < (x10.length : Int) then (if x12 < (x6.length : Int) then (if (rd x10 x12) < (rd x6 x12) then (some false) else (if x12 < (x11.length : Int) then (if (rd x11 x12) < (rd x6 x12) then (some false) else (if x9 = 0 then (if (rd x10 x12) = (rd x6 x12) then (if x12 > 0 then (if 0 ≤ (wrap64 (x12 - 1)) then (if (wrap64 (x12 - 1)) < (x10.length : Int) then (if (rd x10 x12) ≤ (rd x10 (wrap64 (x12 - 1))) then (some false) else (if (wrap64 (x12 - 1)) < (x11.length : Int) then (if (rd x11 x12) ≤ (rd x11 (wrap64 (x12 - 1))) then (some false) else (laws_FnHiding.l1 k x3 x5 x6 x7 x8 x9 x10 x11 (wrap64 (x12 + 1)))) else (none))) else (none)) else (none)) else (laws_FnHiding.l1 k x3 x5 x6 x7 x8 x9 x10 x11 (wrap64 (x12 + 1)))) else (some false)) else (if x12 > 0 then (if 0 ≤ (wrap64 (x12 - 1)) then (if (wrap64 (x12 - 1)) < (x10.length : Int) then (if (rd x10 x12) ≤ (rd x10 (wrap64 (x12 - 1))) then (some false) else (if (wrap64 (x12 - 1)) < (x11.length : Int) then (if (rd x11 x12) ≤ (rd x11 (wrap64 (x12 - 1))) then (some false) else (laws_FnHiding.l1 k x3 x5 x6 x7 x8 x9 x10 x11 (wrap64 (x12 + 1)))) else (none))) else (none)) else (none)) else (laws_FnHiding.l1 k x3 x5 x6 x7 x8 x9 x10 x11 (wrap64 (x12 + 1)))))) else (none))) else (none)) else (none)) else (none)) else (laws_FnHiding.l0 k x3 x5 x6 x7 x8 (wrap64 (x9 + 1)))
end
def laws_FnHiding.f (k : Nat) (l0 : List Int) : Option (Bool) := (laws_big.f l0).bind fun t693 => (if t693 = true then (some true) else ((spec_DrawList.f k l0).bind fun t694 => ((spec_DrawPlaces.f k l0).bind fun t697 => (if 0 < (t697.length : Int) then ((impl_IssueTimes.f k t694).bind fun t701 => ((impl_IssueAll.f k t694 (wrap64 (1 + (Int.tmod (rd t697 0) 8))) 0).bind fun t704 => ((impl_IssueAll.f k t694 (wrap64 (1 + (Int.tmod (rd t697 0) 8))) 1).bind fun t707 => (laws_FnHiding.l0 k t694 (wrap64 (1 + (Int.tmod (rd t697 0) 8))) t701 t704 t707 0)))) else (none)))))
set_option maxHeartbeats 8000000 in
set_option maxRecDepth 100000 in
theorem laws_FnHiding.calls (k : Nat) (A0 : Option Addr) (c0 : Nat) (l0 : List Int) (r : Bool) (w : World) (hr0 : Kd.C (Kd.int .u8) w A0 l0.length l0) (hc0 : l0.length ≤ c0) (h : laws_FnHiding.f k l0 = some r) :
  Calls Try.prog 11 #[.slice A0 l0.length c0] w fun e w' => e = .returned (.bool r) ∧ Below w.heap.size w w' := by
 have HR0 := Aside0.mk hr0
 have HC0 := Aside0.mk hc0
 clear hr0 hc0
 have HB := Aside0.mk (Below.refl w.heap.size w)
 have H : ((laws_big.f l0).bind fun t693 => (if t693 = true then (some true) else ((spec_DrawList.f k l0).bind fun t694 => ((spec_DrawPlaces.f k l0).bind fun t697 => (if 0 < (t697.length : Int) then ((impl_IssueTimes.f k t694).bind fun t701 => ((impl_IssueAll.f k t694 (wrap64 (1 + (Int.tmod (rd t697 0) 8))) 0).bind fun t704 => ((impl_IssueAll.f k t694 (wrap64 (1 + (Int.tmod (rd t697 0) 8))) 1).bind fun t707 => (laws_FnHiding.l0 k t694 (wrap64 (1 + (Int.tmod (rd t697 0) 8))) t701 t704 t707 0)))) else (none)))))) = some r := h
 clear h
 replace H := Option.bind_eq_some_iff.mp H
 obtain ⟨t693, A20, H⟩ := H
 replace H : (if t693 = true then (some true) else ((spec_DrawList.f k l0).bind fun t694 => ((spec_DrawPlaces.f k l0).bind fun t697 => (if 0 < (t697.length : Int) then ((impl_IssueTimes.f k t694).bind fun t701 => ((impl_IssueAll.f k t694 (wrap64 (1 + (Int.tmod (rd t697 0) 8))) 0).bind fun t704 => ((impl_IssueAll.f k t694 (wrap64 (1 + (Int.tmod (rd t697 0) 8))) 1).bind fun t707 => (laws_FnHiding.l0 k t694 (wrap64 (1 + (Int.tmod (rd t697 0) 8))) t701 t704 t707 0)))) else (none))))) = some r := H
 have A2 := Aside0.mk A20
 clear A20
 by_cases c3 : t693 = true
 ·
  subst c3
  have H1 : (some true) = some r := by rw [if_pos rfl] at H; exact H
  clear H
  have H := H1
  clear H1
  obtain rfl := Option.some.inj H
  go_enter Try.func11, Try.ntmps11
  go_wp2_with (first | (go_at_call 43; (with_reducible refine (laws_big.calls _ _ l0 true _ ?side1 ?side2 A2.out).mono ?_); (case side1 => repeat (first | exact HR0.out | (with_reducible refine Kd.C_alloc ?_ _) | (with_reducible refine Kd.C_drewN ?_ _) | (with_reducible refine Kd.C_drew ?_))); (case side2 => exact HC0.out); rintro e w' ⟨rfl, ⟨nd, rfl⟩⟩; (try first | exact ⟨rfl, _, World.drewN_drewN _ _ _⟩ | exact ⟨rfl, _, Eq.trans (World.drewN_drewN _ _ _) (congrArg (World.drewN _) (Nat.add_assoc _ _ _))⟩)))
  repeat (go_quiet (first | (go_at_call 43; (with_reducible refine (laws_big.calls _ _ l0 true _ ?side1 ?side2 A2.out).mono ?_); (case side1 => repeat (first | exact HR0.out | (with_reducible refine Kd.C_alloc ?_ _) | (with_reducible refine Kd.C_drewN ?_ _) | (with_reducible refine Kd.C_drew ?_))); (case side2 => exact HC0.out); rintro e w' ⟨rfl, ⟨nd, rfl⟩⟩; (try first | exact ⟨rfl, _, World.drewN_drewN _ _ _⟩ | exact ⟨rfl, _, Eq.trans (World.drewN_drewN _ _ _) (congrArg (World.drewN _) (Nat.add_assoc _ _ _))⟩))); try go_wp2_with (first | (go_at_call 43; (with_reducible refine (laws_big.calls _ _ l0 true _ ?side1 ?side2 A2.out).mono ?_); (case side1 => repeat (first | exact HR0.out | (with_reducible refine Kd.C_alloc ?_ _) | (with_reducible refine Kd.C_drewN ?_ _) | (with_reducible refine Kd.C_drew ?_))); (case side2 => exact HC0.out); rintro e w' ⟨rfl, ⟨nd, rfl⟩⟩; (try first | exact ⟨rfl, _, World.drewN_drewN _ _ _⟩ | exact ⟨rfl, _, Eq.trans (World.drewN_drewN _ _ _) (congrArg (World.drewN _) (Nat.add_assoc _ _ _))⟩))))
  go_ret
  exact ⟨fe, bel⟩
 ·
  replace c3 := Bool.eq_false_iff.mpr c3
  subst c3
  have H1 : ((spec_DrawList.f k l0).bind fun t694 => ((spec_DrawPlaces.f k l0).bind fun t697 => (if 0 < (t697.length : Int) then ((impl_IssueTimes.f k t694).bind fun t701 => ((impl_IssueAll.f k t694 (wrap64 (1 + (Int.tmod (rd t697 0) 8))) 0).bind fun t704 => ((impl_IssueAll.f k t694 (wrap64 (1 + (Int.tmod (rd t697 0) 8))) 1).bind fun t707 => (laws_FnHiding.l0 k t694 (wrap64 (1 + (Int.tmod (rd t697 0) 8))) t701 t704 t707 0)))) else (none)))) = some r := by rw [if_neg (show ¬ (false = true) by decide)] at H; exact H
  clear H
  have H := H1
  clear H1
  replace H := Option.bind_eq_some_iff.mp H
  obtain ⟨t694, A40, H⟩ := H
  replace H : ((spec_DrawPlaces.f k l0).bind fun t697 => (if 0 < (t697.length : Int) then ((impl_IssueTimes.f k t694).bind fun t701 => ((impl_IssueAll.f k t694 (wrap64 (1 + (Int.tmod (rd t697 0) 8))) 0).bind fun t704 => ((impl_IssueAll.f k t694 (wrap64 (1 + (Int.tmod (rd t697 0) 8))) 1).bind fun t707 => (laws_FnHiding.l0 k t694 (wrap64 (1 + (Int.tmod (rd t697 0) 8))) t701 t704 t707 0)))) else (none))) = some r := H
  have A4 := Aside0.mk A40
  clear A40
  replace H := Option.bind_eq_some_iff.mp H
  obtain ⟨t697, A50, H⟩ := H
  replace H : (if 0 < (t697.length : Int) then ((impl_IssueTimes.f k t694).bind fun t701 => ((impl_IssueAll.f k t694 (wrap64 (1 + (Int.tmod (rd t697 0) 8))) 0).bind fun t704 => ((impl_IssueAll.f k t694 (wrap64 (1 + (Int.tmod (rd t697 0) 8))) 1).bind fun t707 => (laws_FnHiding.l0 k t694 (wrap64 (1 + (Int.tmod (rd t697 0) 8))) t701 t704 t707 0)))) else (none)) = some r := H
  have A5 := Aside0.mk A50
  clear A50
  by_cases c6 : 0 < (t697.length : Int)
  ·
   rw [if_pos c6] at H
   have c6b0 : decide (0 < (t697.length : Int)) = true := decide_eq_true c6
   have c6b1 : decide (0 < t697.length) = true := decide_eq_true (by omega)
   clear c6
   replace H := Option.bind_eq_some_iff.mp H
   obtain ⟨t701, A70, H⟩ := H
   replace H : ((impl_IssueAll.f k t694 (wrap64 (1 + (Int.tmod (rd t697 0) 8))) 0).bind fun t704 => ((impl_IssueAll.f k t694 (wrap64 (1 + (Int.tmod (rd t697 0) 8))) 1).bind fun t707 => (laws_FnHiding.l0 k t694 (wrap64 (1 + (Int.tmod (rd t697 0) 8))) t701 t704 t707 0))) = some r := H
   have A7 := Aside0.mk A70
   clear A70
   replace H := Option.bind_eq_some_iff.mp H
   obtain ⟨t704, A80, H⟩ := H
   replace H : ((impl_IssueAll.f k t694 (wrap64 (1 + (Int.tmod (rd t697 0) 8))) 1).bind fun t707 => (laws_FnHiding.l0 k t694 (wrap64 (1 + (Int.tmod (rd t697 0) 8))) t701 t704 t707 0)) = some r := H
   have A8 := Aside0.mk A80
   clear A80
   replace H := Option.bind_eq_some_iff.mp H
   obtain ⟨t707, A90, H⟩ := H
   replace H : (laws_FnHiding.l0 k t694 (wrap64 (1 + (Int.tmod (rd t697 0) 8))) t701 t704 t707 0) = some r := H
   have A9 := Aside0.mk A90
   clear A90
   have H' := Aside0.mk H
   clear H
   go_enter Try.func11, Try.ntmps11
   go_wp2_with (first | (go_at_call 43; (with_reducible refine (laws_big.calls _ _ l0 false _ ?side1 ?side2 A2.out).mono ?_); (case side1 => repeat (first | exact HR0.out | (with_reducible refine Kd.C_alloc ?_ _) | (with_reducible refine Kd.C_drewN ?_ _) | (with_reducible refine Kd.C_drew ?_))); (case side2 => exact HC0.out); rintro e w' ⟨rfl, ⟨nd, rfl⟩⟩; (try first | exact ⟨rfl, _, World.drewN_drewN _ _ _⟩ | exact ⟨rfl, _, Eq.trans (World.drewN_drewN _ _ _) (congrArg (World.drewN _) (Nat.add_assoc _ _ _))⟩)) | (go_at_call 44; (with_reducible refine (spec_DrawList.calls k _ _ l0 t694 _ ?side1 ?side2 A4.out).mono ?_); (case side1 => repeat (first | exact HR0.out | (with_reducible refine Kd.C_alloc ?_ _) | (with_reducible refine Kd.C_drewN ?_ _) | (with_reducible refine Kd.C_drew ?_))); (case side2 => exact HC0.out); rintro e w10 ⟨v695, rfl, ho0, hb⟩; have n0_ := Aside0.mk (Kd.R_lower ho0 (below_size bel)); have n1_ := Aside0.mk (below_step bel hb); clear HB; have HO696 := n0_; have HB := n1_; clear n0_ n1_; (try clear hb); (try clear hb2); (try clear hk); (try clear hi); (try clear ho0)) | (go_at_call 46; (with_reducible refine (spec_DrawPlaces.calls k _ _ l0 t697 _ ?side1 ?side2 A5.out).mono ?_); (case side1 => repeat (first | exact (Kd.C_below HR0.out HB.out) | (with_reducible refine Kd.C_alloc ?_ _) | (with_reducible refine Kd.C_drewN ?_ _) | (with_reducible refine Kd.C_drew ?_))); (case side2 => exact HC0.out); rintro e w11 ⟨v698, rfl, ho0, hb⟩; have n0_ := Aside0.mk (Kd.R_below (by (with_reducible repeat (first | apply Kd.R_alloc | apply Kd.R_drewN | apply Kd.R_drew)); exact HO696.out) hb); have n1_ := Aside0.mk (Kd.R_lower ho0 (below_size bel)); have n2_ := Aside0.mk (below_step bel hb); clear HO696; clear HB; have HO696 := n0_; have HO699 := n1_; have HB := n2_; clear n0_ n1_ n2_; (try clear hb); (try clear hb2); (try clear hk); (try clear hi); (try clear ho0); obtain ⟨Ao12, co12, eo12⟩ := Kd.R_slice HO699.out; subst eo12; have p700 : 0 ≤ (0 : Int) := (by omega); have q700 : 0 < (t697.length : Int) := odt; obtain ⟨ad700, e700, hx700_0⟩ := Kd.at_int (Kd.R_reads' HO699.out).2.2 0 p700 q700; cases e700; have qi700 : (0 < t697.length) = True := eq_true (by omega); (try rw [show ((0 : Int)).toNat = 0 from rfl] at hx700_0); (try rw [Addr.add_zero'] at hx700_0); replace p700 := eq_true p700; replace q700 := eq_true q700; obtain ⟨Ao13, co13, eo13⟩ := Kd.R_slice HO696.out; subst eo13) | (go_at_call 31; (with_reducible refine (impl_IssueTimes.calls k _ _ t694 t701 _ ?side1 ?side2 A7.out).mono ?_); (case side1 => repeat (first | exact (Kd.R_reads' HO696.out).2.2 | (with_reducible refine Kd.C_alloc ?_ _) | (with_reducible refine Kd.C_drewN ?_ _) | (with_reducible refine Kd.C_drew ?_))); (case side2 => exact (Kd.R_reads' HO696.out).2.1); rintro e w14 ⟨v702, rfl, ho0, hb⟩; have n0_ := Aside0.mk (Kd.R_below (by (with_reducible repeat (first | apply Kd.R_alloc | apply Kd.R_drewN | apply Kd.R_drew)); exact HO696.out) hb); have n1_ := Aside0.mk (Kd.R_elder' (by (with_reducible repeat (first | apply Kd.R_alloc | apply Kd.R_drewN | apply Kd.R_drew)); exact HO699.out) (Kd.R_base ho0) hb); have n2_ := Aside0.mk (Kd.R_lower (Kd.R_new' ho0 (Kd.R_lt (by (with_reducible repeat (first | apply Kd.R_alloc | apply Kd.R_drewN | apply Kd.R_drew)); exact HO699.out))) (below_size bel)); have n3_ := Aside0.mk (below_step bel hb); clear HO696; clear HO699; clear HB; have HO696 := n0_; have HO699 := n1_; have HO703 := n2_; have HB := n3_; clear n0_ n1_ n2_ n3_; (try clear hb); (try clear hb2); (try clear hk); (try clear hi); (try clear ho0)) | (go_at_call 37; (with_reducible refine (impl_IssueAll.calls k _ _ t694 (wrap64 (1 + (Int.tmod (rd t697 0) 8))) 0 t704 _ ?side1 ?side2 A8.out).mono ?_); (case side1 => repeat (first | exact (Kd.R_reads' HO696.out).2.2 | (with_reducible refine Kd.C_alloc ?_ _) | (with_reducible refine Kd.C_drewN ?_ _) | (with_reducible refine Kd.C_drew ?_))); (case side2 => exact (Kd.R_reads' HO696.out).2.1); rintro e w15 ⟨v705, rfl, ho0, hb⟩; have n0_ := Aside0.mk (Kd.R_below (by (with_reducible repeat (first | apply Kd.R_alloc | apply Kd.R_drewN | apply Kd.R_drew)); exact HO696.out) hb); have n1_ := Aside0.mk (Kd.R_below (by (with_reducible repeat (first | apply Kd.R_alloc | apply Kd.R_drewN | apply Kd.R_drew)); exact HO699.out) hb); have n2_ := Aside0.mk (Kd.R_below (by (with_reducible repeat (first | apply Kd.R_alloc | apply Kd.R_drewN | apply Kd.R_drew)); exact HO703.out) hb); have n3_ := Aside0.mk (Kd.R_lower ho0 (below_size bel)); have n4_ := Aside0.mk (below_step bel hb); clear HO696; clear HO699; clear HO703; clear HB; have HO696 := n0_; have HO699 := n1_; have HO703 := n2_; have HO706 := n3_; have HB := n4_; clear n0_ n1_ n2_ n3_ n4_; (try clear hb); (try clear hb2); (try clear hk); (try clear hi); (try clear ho0)) | (go_at_call 37; (with_reducible refine (impl_IssueAll.calls k _ _ t694 (wrap64 (1 + (Int.tmod (rd t697 0) 8))) 1 t707 _ ?side1 ?side2 A9.out).mono ?_); (case side1 => repeat (first | exact (Kd.R_reads' HO696.out).2.2 | (with_reducible refine Kd.C_alloc ?_ _) | (with_reducible refine Kd.C_drewN ?_ _) | (with_reducible refine Kd.C_drew ?_))); (case side2 => exact (Kd.R_reads' HO696.out).2.1); rintro e w16 ⟨v708, rfl, ho0, hb⟩; have n0_ := Aside0.mk (Kd.R_below (by (with_reducible repeat (first | apply Kd.R_alloc | apply Kd.R_drewN | apply Kd.R_drew)); exact HO696.out) hb); have n1_ := Aside0.mk (Kd.R_below (by (with_reducible repeat (first | apply Kd.R_alloc | apply Kd.R_drewN | apply Kd.R_drew)); exact HO699.out) hb); have n2_ := Aside0.mk (Kd.R_below (by (with_reducible repeat (first | apply Kd.R_alloc | apply Kd.R_drewN | apply Kd.R_drew)); exact HO703.out) hb); have n3_ := Aside0.mk (Kd.R_elder' (by (with_reducible repeat (first | apply Kd.R_alloc | apply Kd.R_drewN | apply Kd.R_drew)); exact HO706.out) (Kd.R_base ho0) hb); have n4_ := Aside0.mk (Kd.R_lower (Kd.R_new' ho0 (Kd.R_lt (by (with_reducible repeat (first | apply Kd.R_alloc | apply Kd.R_drewN | apply Kd.R_drew)); exact HO706.out))) (below_size bel)); have n5_ := Aside0.mk (below_step bel hb); clear HO696; clear HO699; clear HO703; clear HO706; clear HB; have HO696 := n0_; have HO699 := n1_; have HO703 := n2_; have HO706 := n3_; have HO709 := n4_; have HB := n5_; clear n0_ n1_ n2_ n3_ n4_ n5_; (try clear hb); (try clear hb2); (try clear hk); (try clear hi); (try clear ho0)))
   repeat (go_quiet (first | (go_at_call 43; (with_reducible refine (laws_big.calls _ _ l0 false _ ?side1 ?side2 A2.out).mono ?_); (case side1 => repeat (first | exact HR0.out | (with_reducible refine Kd.C_alloc ?_ _) | (with_reducible refine Kd.C_drewN ?_ _) | (with_reducible refine Kd.C_drew ?_))); (case side2 => exact HC0.out); rintro e w' ⟨rfl, ⟨nd, rfl⟩⟩; (try first | exact ⟨rfl, _, World.drewN_drewN _ _ _⟩ | exact ⟨rfl, _, Eq.trans (World.drewN_drewN _ _ _) (congrArg (World.drewN _) (Nat.add_assoc _ _ _))⟩)) | (go_at_call 44; (with_reducible refine (spec_DrawList.calls k _ _ l0 t694 _ ?side1 ?side2 A4.out).mono ?_); (case side1 => repeat (first | exact HR0.out | (with_reducible refine Kd.C_alloc ?_ _) | (with_reducible refine Kd.C_drewN ?_ _) | (with_reducible refine Kd.C_drew ?_))); (case side2 => exact HC0.out); rintro e w10 ⟨v695, rfl, ho0, hb⟩; have n0_ := Aside0.mk (Kd.R_lower ho0 (below_size bel)); have n1_ := Aside0.mk (below_step bel hb); clear HB; have HO696 := n0_; have HB := n1_; clear n0_ n1_; (try clear hb); (try clear hb2); (try clear hk); (try clear hi); (try clear ho0)) | (go_at_call 46; (with_reducible refine (spec_DrawPlaces.calls k _ _ l0 t697 _ ?side1 ?side2 A5.out).mono ?_); (case side1 => repeat (first | exact (Kd.C_below HR0.out HB.out) | (with_reducible refine Kd.C_alloc ?_ _) | (with_reducible refine Kd.C_drewN ?_ _) | (with_reducible refine Kd.C_drew ?_))); (case side2 => exact HC0.out); rintro e w11 ⟨v698, rfl, ho0, hb⟩; have n0_ := Aside0.mk (Kd.R_below (by (with_reducible repeat (first | apply Kd.R_alloc | apply Kd.R_drewN | apply Kd.R_drew)); exact HO696.out) hb); have n1_ := Aside0.mk (Kd.R_lower ho0 (below_size bel)); have n2_ := Aside0.mk (below_step bel hb); clear HO696; clear HB; have HO696 := n0_; have HO699 := n1_; have HB := n2_; clear n0_ n1_ n2_; (try clear hb); (try clear hb2); (try clear hk); (try clear hi); (try clear ho0); obtain ⟨Ao12, co12, eo12⟩ := Kd.R_slice HO699.out; subst eo12; have p700 : 0 ≤ (0 : Int) := (by omega); have q700 : 0 < (t697.length : Int) := odt; obtain ⟨ad700, e700, hx700_0⟩ := Kd.at_int (Kd.R_reads' HO699.out).2.2 0 p700 q700; cases e700; have qi700 : (0 < t697.length) = True := eq_true (by omega); (try rw [show ((0 : Int)).toNat = 0 from rfl] at hx700_0); (try rw [Addr.add_zero'] at hx700_0); replace p700 := eq_true p700; replace q700 := eq_true q700; obtain ⟨Ao13, co13, eo13⟩ := Kd.R_slice HO696.out; subst eo13) | (go_at_call 31; (with_reducible refine (impl_IssueTimes.calls k _ _ t694 t701 _ ?side1 ?side2 A7.out).mono ?_); (case side1 => repeat (first | exact (Kd.R_reads' HO696.out).2.2 | (with_reducible refine Kd.C_alloc ?_ _) | (with_reducible refine Kd.C_drewN ?_ _) | (with_reducible refine Kd.C_drew ?_))); (case side2 => exact (Kd.R_reads' HO696.out).2.1); rintro e w14 ⟨v702, rfl, ho0, hb⟩; have n0_ := Aside0.mk (Kd.R_below (by (with_reducible repeat (first | apply Kd.R_alloc | apply Kd.R_drewN | apply Kd.R_drew)); exact HO696.out) hb); have n1_ := Aside0.mk (Kd.R_elder' (by (with_reducible repeat (first | apply Kd.R_alloc | apply Kd.R_drewN | apply Kd.R_drew)); exact HO699.out) (Kd.R_base ho0) hb); have n2_ := Aside0.mk (Kd.R_lower (Kd.R_new' ho0 (Kd.R_lt (by (with_reducible repeat (first | apply Kd.R_alloc | apply Kd.R_drewN | apply Kd.R_drew)); exact HO699.out))) (below_size bel)); have n3_ := Aside0.mk (below_step bel hb); clear HO696; clear HO699; clear HB; have HO696 := n0_; have HO699 := n1_; have HO703 := n2_; have HB := n3_; clear n0_ n1_ n2_ n3_; (try clear hb); (try clear hb2); (try clear hk); (try clear hi); (try clear ho0)) | (go_at_call 37; (with_reducible refine (impl_IssueAll.calls k _ _ t694 (wrap64 (1 + (Int.tmod (rd t697 0) 8))) 0 t704 _ ?side1 ?side2 A8.out).mono ?_); (case side1 => repeat (first | exact (Kd.R_reads' HO696.out).2.2 | (with_reducible refine Kd.C_alloc ?_ _) | (with_reducible refine Kd.C_drewN ?_ _) | (with_reducible refine Kd.C_drew ?_))); (case side2 => exact (Kd.R_reads' HO696.out).2.1); rintro e w15 ⟨v705, rfl, ho0, hb⟩; have n0_ := Aside0.mk (Kd.R_below (by (with_reducible repeat (first | apply Kd.R_alloc | apply Kd.R_drewN | apply Kd.R_drew)); exact HO696.out) hb); have n1_ := Aside0.mk (Kd.R_below (by (with_reducible repeat (first | apply Kd.R_alloc | apply Kd.R_drewN | apply Kd.R_drew)); exact HO699.out) hb); have n2_ := Aside0.mk (Kd.R_below (by (with_reducible repeat (first | apply Kd.R_alloc | apply Kd.R_drewN | apply Kd.R_drew)); exact HO703.out) hb); have n3_ := Aside0.mk (Kd.R_lower ho0 (below_size bel)); have n4_ := Aside0.mk (below_step bel hb); clear HO696; clear HO699; clear HO703; clear HB; have HO696 := n0_; have HO699 := n1_; have HO703 := n2_; have HO706 := n3_; have HB := n4_; clear n0_ n1_ n2_ n3_ n4_; (try clear hb); (try clear hb2); (try clear hk); (try clear hi); (try clear ho0)) | (go_at_call 37; (with_reducible refine (impl_IssueAll.calls k _ _ t694 (wrap64 (1 + (Int.tmod (rd t697 0) 8))) 1 t707 _ ?side1 ?side2 A9.out).mono ?_); (case side1 => repeat (first | exact (Kd.R_reads' HO696.out).2.2 | (with_reducible refine Kd.C_alloc ?_ _) | (with_reducible refine Kd.C_drewN ?_ _) | (with_reducible refine Kd.C_drew ?_))); (case side2 => exact (Kd.R_reads' HO696.out).2.1); rintro e w16 ⟨v708, rfl, ho0, hb⟩; have n0_ := Aside0.mk (Kd.R_below (by (with_reducible repeat (first | apply Kd.R_alloc | apply Kd.R_drewN | apply Kd.R_drew)); exact HO696.out) hb); have n1_ := Aside0.mk (Kd.R_below (by (with_reducible repeat (first | apply Kd.R_alloc | apply Kd.R_drewN | apply Kd.R_drew)); exact HO699.out) hb); have n2_ := Aside0.mk (Kd.R_below (by (with_reducible repeat (first | apply Kd.R_alloc | apply Kd.R_drewN | apply Kd.R_drew)); exact HO703.out) hb); have n3_ := Aside0.mk (Kd.R_elder' (by (with_reducible repeat (first | apply Kd.R_alloc | apply Kd.R_drewN | apply Kd.R_drew)); exact HO706.out) (Kd.R_base ho0) hb); have n4_ := Aside0.mk (Kd.R_lower (Kd.R_new' ho0 (Kd.R_lt (by (with_reducible repeat (first | apply Kd.R_alloc | apply Kd.R_drewN | apply Kd.R_drew)); exact HO706.out))) (below_size bel)); have n5_ := Aside0.mk (below_step bel hb); clear HO696; clear HO699; clear HO703; clear HO706; clear HB; have HO696 := n0_; have HO699 := n1_; have HO703 := n2_; have HO706 := n3_; have HO709 := n4_; have HB := n5_; clear n0_ n1_ n2_ n3_ n4_ n5_; (try clear hb); (try clear hb2); (try clear hk); (try clear hi); (try clear ho0))); try go_wp2_with (first | (go_at_call 43; (with_reducible refine (laws_big.calls _ _ l0 false _ ?side1 ?side2 A2.out).mono ?_); (case side1 => repeat (first | exact HR0.out | (with_reducible refine Kd.C_alloc ?_ _) | (with_reducible refine Kd.C_drewN ?_ _) | (with_reducible refine Kd.C_drew ?_))); (case side2 => exact HC0.out); rintro e w' ⟨rfl, ⟨nd, rfl⟩⟩; (try first | exact ⟨rfl, _, World.drewN_drewN _ _ _⟩ | exact ⟨rfl, _, Eq.trans (World.drewN_drewN _ _ _) (congrArg (World.drewN _) (Nat.add_assoc _ _ _))⟩)) | (go_at_call 44; (with_reducible refine (spec_DrawList.calls k _ _ l0 t694 _ ?side1 ?side2 A4.out).mono ?_); (case side1 => repeat (first | exact HR0.out | (with_reducible refine Kd.C_alloc ?_ _) | (with_reducible refine Kd.C_drewN ?_ _) | (with_reducible refine Kd.C_drew ?_))); (case side2 => exact HC0.out); rintro e w10 ⟨v695, rfl, ho0, hb⟩; have n0_ := Aside0.mk (Kd.R_lower ho0 (below_size bel)); have n1_ := Aside0.mk (below_step bel hb); clear HB; have HO696 := n0_; have HB := n1_; clear n0_ n1_; (try clear hb); (try clear hb2); (try clear hk); (try clear hi); (try clear ho0)) | (go_at_call 46; (with_reducible refine (spec_DrawPlaces.calls k _ _ l0 t697 _ ?side1 ?side2 A5.out).mono ?_); (case side1 => repeat (first | exact (Kd.C_below HR0.out HB.out) | (with_reducible refine Kd.C_alloc ?_ _) | (with_reducible refine Kd.C_drewN ?_ _) | (with_reducible refine Kd.C_drew ?_))); (case side2 => exact HC0.out); rintro e w11 ⟨v698, rfl, ho0, hb⟩; have n0_ := Aside0.mk (Kd.R_below (by (with_reducible repeat (first | apply Kd.R_alloc | apply Kd.R_drewN | apply Kd.R_drew)); exact HO696.out) hb); have n1_ := Aside0.mk (Kd.R_lower ho0 (below_size bel)); have n2_ := Aside0.mk (below_step bel hb); clear HO696; clear HB; have HO696 := n0_; have HO699 := n1_; have HB := n2_; clear n0_ n1_ n2_; (try clear hb); (try clear hb2); (try clear hk); (try clear hi); (try clear ho0); obtain ⟨Ao12, co12, eo12⟩ := Kd.R_slice HO699.out; subst eo12; have p700 : 0 ≤ (0 : Int) := (by omega); have q700 : 0 < (t697.length : Int) := odt; obtain ⟨ad700, e700, hx700_0⟩ := Kd.at_int (Kd.R_reads' HO699.out).2.2 0 p700 q700; cases e700; have qi700 : (0 < t697.length) = True := eq_true (by omega); (try rw [show ((0 : Int)).toNat = 0 from rfl] at hx700_0); (try rw [Addr.add_zero'] at hx700_0); replace p700 := eq_true p700; replace q700 := eq_true q700; obtain ⟨Ao13, co13, eo13⟩ := Kd.R_slice HO696.out; subst eo13) | (go_at_call 31; (with_reducible refine (impl_IssueTimes.calls k _ _ t694 t701 _ ?side1 ?side2 A7.out).mono ?_); (case side1 => repeat (first | exact (Kd.R_reads' HO696.out).2.2 | (with_reducible refine Kd.C_alloc ?_ _) | (with_reducible refine Kd.C_drewN ?_ _) | (with_reducible refine Kd.C_drew ?_))); (case side2 => exact (Kd.R_reads' HO696.out).2.1); rintro e w14 ⟨v702, rfl, ho0, hb⟩; have n0_ := Aside0.mk (Kd.R_below (by (with_reducible repeat (first | apply Kd.R_alloc | apply Kd.R_drewN | apply Kd.R_drew)); exact HO696.out) hb); have n1_ := Aside0.mk (Kd.R_elder' (by (with_reducible repeat (first | apply Kd.R_alloc | apply Kd.R_drewN | apply Kd.R_drew)); exact HO699.out) (Kd.R_base ho0) hb); have n2_ := Aside0.mk (Kd.R_lower (Kd.R_new' ho0 (Kd.R_lt (by (with_reducible repeat (first | apply Kd.R_alloc | apply Kd.R_drewN | apply Kd.R_drew)); exact HO699.out))) (below_size bel)); have n3_ := Aside0.mk (below_step bel hb); clear HO696; clear HO699; clear HB; have HO696 := n0_; have HO699 := n1_; have HO703 := n2_; have HB := n3_; clear n0_ n1_ n2_ n3_; (try clear hb); (try clear hb2); (try clear hk); (try clear hi); (try clear ho0)) | (go_at_call 37; (with_reducible refine (impl_IssueAll.calls k _ _ t694 (wrap64 (1 + (Int.tmod (rd t697 0) 8))) 0 t704 _ ?side1 ?side2 A8.out).mono ?_); (case side1 => repeat (first | exact (Kd.R_reads' HO696.out).2.2 | (with_reducible refine Kd.C_alloc ?_ _) | (with_reducible refine Kd.C_drewN ?_ _) | (with_reducible refine Kd.C_drew ?_))); (case side2 => exact (Kd.R_reads' HO696.out).2.1); rintro e w15 ⟨v705, rfl, ho0, hb⟩; have n0_ := Aside0.mk (Kd.R_below (by (with_reducible repeat (first | apply Kd.R_alloc | apply Kd.R_drewN | apply Kd.R_drew)); exact HO696.out) hb); have n1_ := Aside0.mk (Kd.R_below (by (with_reducible repeat (first | apply Kd.R_alloc | apply Kd.R_drewN | apply Kd.R_drew)); exact HO699.out) hb); have n2_ := Aside0.mk (Kd.R_below (by (with_reducible repeat (first | apply Kd.R_alloc | apply Kd.R_drewN | apply Kd.R_drew)); exact HO703.out) hb); have n3_ := Aside0.mk (Kd.R_lower ho0 (below_size bel)); have n4_ := Aside0.mk (below_step bel hb); clear HO696; clear HO699; clear HO703; clear HB; have HO696 := n0_; have HO699 := n1_; have HO703 := n2_; have HO706 := n3_; have HB := n4_; clear n0_ n1_ n2_ n3_ n4_; (try clear hb); (try clear hb2); (try clear hk); (try clear hi); (try clear ho0)) | (go_at_call 37; (with_reducible refine (impl_IssueAll.calls k _ _ t694 (wrap64 (1 + (Int.tmod (rd t697 0) 8))) 1 t707 _ ?side1 ?side2 A9.out).mono ?_); (case side1 => repeat (first | exact (Kd.R_reads' HO696.out).2.2 | (with_reducible refine Kd.C_alloc ?_ _) | (with_reducible refine Kd.C_drewN ?_ _) | (with_reducible refine Kd.C_drew ?_))); (case side2 => exact (Kd.R_reads' HO696.out).2.1); rintro e w16 ⟨v708, rfl, ho0, hb⟩; have n0_ := Aside0.mk (Kd.R_below (by (with_reducible repeat (first | apply Kd.R_alloc | apply Kd.R_drewN | apply Kd.R_drew)); exact HO696.out) hb); have n1_ := Aside0.mk (Kd.R_below (by (with_reducible repeat (first | apply Kd.R_alloc | apply Kd.R_drewN | apply Kd.R_drew)); exact HO699.out) hb); have n2_ := Aside0.mk (Kd.R_below (by (with_reducible repeat (first | apply Kd.R_alloc | apply Kd.R_drewN | apply Kd.R_drew)); exact HO703.out) hb); have n3_ := Aside0.mk (Kd.R_elder' (by (with_reducible repeat (first | apply Kd.R_alloc | apply Kd.R_drewN | apply Kd.R_drew)); exact HO706.out) (Kd.R_base ho0) hb); have n4_ := Aside0.mk (Kd.R_lower (Kd.R_new' ho0 (Kd.R_lt (by (with_reducible repeat (first | apply Kd.R_alloc | apply Kd.R_drewN | apply Kd.R_drew)); exact HO706.out))) (below_size bel)); have n5_ := Aside0.mk (below_step bel hb); clear HO696; clear HO699; clear HO703; clear HO706; clear HB; have HO696 := n0_; have HO699 := n1_; have HO703 := n2_; have HO706 := n3_; have HO709 := n4_; have HB := n5_; clear n0_ n1_ n2_ n3_ n4_ n5_; (try clear hb); (try clear hb2); (try clear hk); (try clear hi); (try clear ho0))))
   go_loopg [9] k (fun kq v9 w' => ∃ (x9_1 : Int), v9 = .int .i64 x9_1 ∧ Aside0 (laws_FnHiding.l0 kq t694 (wrap64 (1 + (Int.tmod (rd t697 0) 8))) t701 t704 t707 x9_1 = some r) ∧ Aside0 (kq ≤ k) ∧ Aside0 (Kd.R k45 45 w' w.heap.size (fun _ => True) (.slice Ao13 t694.length co13) t694) ∧ Aside0 (Kd.R (Kd.int .i64) 3 w' w.heap.size (fun _ => True) v702 t701) ∧ Aside0 (Kd.R k49 49 w' w.heap.size (fun k_ => some k_ ≠ (v708 : Value).ownBlock) v705 t704) ∧ Aside0 (Kd.R k49 49 w' w.heap.size (fun k_ => some k_ ≠ (v705 : Value).ownBlock) v708 t707) ∧ Aside0 (Below w.heap.size w w'))
   case atStart => exact ⟨(0), fr, H', ⟨Nat.le_refl _⟩, ⟨by (with_reducible repeat (first | apply Kd.R_alloc | apply Kd.R_drewN | apply Kd.R_drew)); exact HO696.out⟩, ⟨by (with_reducible repeat (first | apply Kd.R_alloc | apply Kd.R_drewN | apply Kd.R_drew)); exact Kd.R_mono HO703.out (fun _ hk => trivial)⟩, ⟨by (with_reducible repeat (first | apply Kd.R_alloc | apply Kd.R_drewN | apply Kd.R_drew)); exact Kd.R_mono HO706.out (fun _ hk => hk.2)⟩, ⟨by (with_reducible repeat (first | apply Kd.R_alloc | apply Kd.R_drewN | apply Kd.R_drew)); exact Kd.R_mono HO709.out (fun _ hk => hk.2)⟩, ⟨bel⟩⟩
   case round =>
    clear H'
    try clear c1
    try clear p2
    try clear c3
    try clear c6
    try clear c6b0
    try clear c6b1
    try clear p6
    try clear p7
    try clear q7
    try clear hx7
    try clear qi7
    try clear c11
    try clear hx700_0
    try clear p700
    try clear q700
    obtain ⟨x9_1, rfl, HA, HK1, HO_3, HO_6, HO_7, HO_8, HB⟩ := hrel
    cases gk with
    | zero => exact absurd HA.out (by simp [laws_FnHiding.l0])
    | succ k1 =>
     have H := HA.out
     clear HA
     simp only [laws_FnHiding.l0] at H
     by_cases c17 : x9_1 < (wrap64 (1 + (Int.tmod (rd t697 0) 8)))
     ·
      rw [if_pos c17] at H
      have c17b0 : decide (x9_1 < (wrap64 (1 + (Int.tmod (rd t697 0) 8)))) = true := decide_eq_true c17
      clear c17
      replace H := Option.bind_eq_some_iff.mp H
      obtain ⟨t711, A180, H⟩ := H
      replace H : ((impl_WarpTimes.f k1 t707 x9_1).bind fun t714 => (if (t711.length : Int) = (t694.length : Int) then (if (t714.length : Int) = (t694.length : Int) then (laws_FnHiding.j1 k1 t694 (wrap64 (1 + (Int.tmod (rd t697 0) 8))) t701 t704 t707 x9_1 t711 t714 ((t701.length : Int) != (t694.length : Int))) else (laws_FnHiding.j1 k1 t694 (wrap64 (1 + (Int.tmod (rd t697 0) 8))) t701 t704 t707 x9_1 t711 t714 true)) else (laws_FnHiding.j1 k1 t694 (wrap64 (1 + (Int.tmod (rd t697 0) 8))) t701 t704 t707 x9_1 t711 t714 true))) = some r := H
      have A18 := Aside0.mk A180
      clear A180
      replace H := Option.bind_eq_some_iff.mp H
      obtain ⟨t714, A190, H⟩ := H
      replace H : (if (t711.length : Int) = (t694.length : Int) then (if (t714.length : Int) = (t694.length : Int) then (laws_FnHiding.j1 k1 t694 (wrap64 (1 + (Int.tmod (rd t697 0) 8))) t701 t704 t707 x9_1 t711 t714 ((t701.length : Int) != (t694.length : Int))) else (laws_FnHiding.j1 k1 t694 (wrap64 (1 + (Int.tmod (rd t697 0) 8))) t701 t704 t707 x9_1 t711 t714 true)) else (laws_FnHiding.j1 k1 t694 (wrap64 (1 + (Int.tmod (rd t697 0) 8))) t701 t704 t707 x9_1 t711 t714 true)) = some r := H
      have A19 := Aside0.mk A190
      clear A190
      have HC20 := Aside0.mk H
      clear H
      obtain ⟨Ao21, co21, eo21⟩ := Kd.R_slice HO_7.out
      subst eo21
      go_upto_region 14 with (first | (go_at_call 47; (with_reducible refine (impl_WarpTimes.calls k1 _ _ t704 x9_1 t711 _ ?side1 ?side2 A18.out).mono ?_); (case side1 => repeat (first | exact (Kd.R_reads' HO_7.out).2.2 | (with_reducible refine Kd.C_alloc ?_ _) | (with_reducible refine Kd.C_drewN ?_ _) | (with_reducible refine Kd.C_drew ?_))); (case side2 => exact (Kd.R_reads' HO_7.out).2.1); rintro e w22 ⟨v712, rfl, ho0, hb⟩; have n0_ := Aside0.mk (Kd.R_below (by (with_reducible repeat (first | apply Kd.R_alloc | apply Kd.R_drewN | apply Kd.R_drew)); exact HO_3.out) hb); have n1_ := Aside0.mk (Kd.R_elder' (by (with_reducible repeat (first | apply Kd.R_alloc | apply Kd.R_drewN | apply Kd.R_drew)); exact HO_6.out) (Kd.R_base ho0) hb); have n2_ := Aside0.mk (Kd.R_below (by (with_reducible repeat (first | apply Kd.R_alloc | apply Kd.R_drewN | apply Kd.R_drew)); exact HO_7.out) hb); have n3_ := Aside0.mk (Kd.R_below (by (with_reducible repeat (first | apply Kd.R_alloc | apply Kd.R_drewN | apply Kd.R_drew)); exact HO_8.out) hb); have n4_ := Aside0.mk (Kd.R_lower (Kd.R_new' ho0 (Kd.R_lt (by (with_reducible repeat (first | apply Kd.R_alloc | apply Kd.R_drewN | apply Kd.R_drew)); exact HO_6.out))) (below_size bel)); have n5_ := Aside0.mk (below_step bel hb); clear HO_3; clear HO_6; clear HO_7; clear HO_8; clear HB; have HO_3 := n0_; have HO_6 := n1_; have HO_7 := n2_; have HO_8 := n3_; have HO713 := n4_; have HB := n5_; clear n0_ n1_ n2_ n3_ n4_ n5_; (try clear hb); (try clear hb2); (try clear hk); (try clear hi); (try clear ho0); obtain ⟨Ao23, co23, eo23⟩ := Kd.R_slice HO_8.out; subst eo23) | (go_at_call 47; (with_reducible refine (impl_WarpTimes.calls k1 _ _ t707 x9_1 t714 _ ?side1 ?side2 A19.out).mono ?_); (case side1 => repeat (first | exact (Kd.R_reads' HO_8.out).2.2 | (with_reducible refine Kd.C_alloc ?_ _) | (with_reducible refine Kd.C_drewN ?_ _) | (with_reducible refine Kd.C_drew ?_))); (case side2 => exact (Kd.R_reads' HO_8.out).2.1); rintro e w24 ⟨v715, rfl, ho0, hb⟩; have n0_ := Aside0.mk (Kd.R_below (by (with_reducible repeat (first | apply Kd.R_alloc | apply Kd.R_drewN | apply Kd.R_drew)); exact HO_3.out) hb); have n1_ := Aside0.mk (Kd.R_elder' (by (with_reducible repeat (first | apply Kd.R_alloc | apply Kd.R_drewN | apply Kd.R_drew)); exact HO_6.out) (Kd.R_base ho0) hb); have n2_ := Aside0.mk (Kd.R_below (by (with_reducible repeat (first | apply Kd.R_alloc | apply Kd.R_drewN | apply Kd.R_drew)); exact HO_7.out) hb); have n3_ := Aside0.mk (Kd.R_below (by (with_reducible repeat (first | apply Kd.R_alloc | apply Kd.R_drewN | apply Kd.R_drew)); exact HO_8.out) hb); have n4_ := Aside0.mk (Kd.R_elder' (by (with_reducible repeat (first | apply Kd.R_alloc | apply Kd.R_drewN | apply Kd.R_drew)); exact HO713.out) (Kd.R_base ho0) hb); have n5_ := Aside0.mk (Kd.R_lower (Kd.R_new' (Kd.R_new' ho0 (Kd.R_lt (by (with_reducible repeat (first | apply Kd.R_alloc | apply Kd.R_drewN | apply Kd.R_drew)); exact HO_6.out))) (Kd.R_lt (by (with_reducible repeat (first | apply Kd.R_alloc | apply Kd.R_drewN | apply Kd.R_drew)); exact HO713.out))) (below_size bel)); have n6_ := Aside0.mk (below_step bel hb); clear HO_3; clear HO_6; clear HO_7; clear HO_8; clear HO713; clear HB; have HO_3 := n0_; have HO_6 := n1_; have HO_7 := n2_; have HO_8 := n3_; have HO713 := n4_; have HO716 := n5_; have HB := n6_; clear n0_ n1_ n2_ n3_ n4_ n5_ n6_; (try clear hb); (try clear hb2); (try clear hk); (try clear hi); (try clear ho0)))
      repeat (go_quiet (first | (go_at_call 47; (with_reducible refine (impl_WarpTimes.calls k1 _ _ t704 x9_1 t711 _ ?side1 ?side2 A18.out).mono ?_); (case side1 => repeat (first | exact (Kd.R_reads' HO_7.out).2.2 | (with_reducible refine Kd.C_alloc ?_ _) | (with_reducible refine Kd.C_drewN ?_ _) | (with_reducible refine Kd.C_drew ?_))); (case side2 => exact (Kd.R_reads' HO_7.out).2.1); rintro e w22 ⟨v712, rfl, ho0, hb⟩; have n0_ := Aside0.mk (Kd.R_below (by (with_reducible repeat (first | apply Kd.R_alloc | apply Kd.R_drewN | apply Kd.R_drew)); exact HO_3.out) hb); have n1_ := Aside0.mk (Kd.R_elder' (by (with_reducible repeat (first | apply Kd.R_alloc | apply Kd.R_drewN | apply Kd.R_drew)); exact HO_6.out) (Kd.R_base ho0) hb); have n2_ := Aside0.mk (Kd.R_below (by (with_reducible repeat (first | apply Kd.R_alloc | apply Kd.R_drewN | apply Kd.R_drew)); exact HO_7.out) hb); have n3_ := Aside0.mk (Kd.R_below (by (with_reducible repeat (first | apply Kd.R_alloc | apply Kd.R_drewN | apply Kd.R_drew)); exact HO_8.out) hb); have n4_ := Aside0.mk (Kd.R_lower (Kd.R_new' ho0 (Kd.R_lt (by (with_reducible repeat (first | apply Kd.R_alloc | apply Kd.R_drewN | apply Kd.R_drew)); exact HO_6.out))) (below_size bel)); have n5_ := Aside0.mk (below_step bel hb); clear HO_3; clear HO_6; clear HO_7; clear HO_8; clear HB; have HO_3 := n0_; have HO_6 := n1_; have HO_7 := n2_; have HO_8 := n3_; have HO713 := n4_; have HB := n5_; clear n0_ n1_ n2_ n3_ n4_ n5_; (try clear hb); (try clear hb2); (try clear hk); (try clear hi); (try clear ho0); obtain ⟨Ao23, co23, eo23⟩ := Kd.R_slice HO_8.out; subst eo23) | (go_at_call 47; (with_reducible refine (impl_WarpTimes.calls k1 _ _ t707 x9_1 t714 _ ?side1 ?side2 A19.out).mono ?_); (case side1 => repeat (first | exact (Kd.R_reads' HO_8.out).2.2 | (with_reducible refine Kd.C_alloc ?_ _) | (with_reducible refine Kd.C_drewN ?_ _) | (with_reducible refine Kd.C_drew ?_))); (case side2 => exact (Kd.R_reads' HO_8.out).2.1); rintro e w24 ⟨v715, rfl, ho0, hb⟩; have n0_ := Aside0.mk (Kd.R_below (by (with_reducible repeat (first | apply Kd.R_alloc | apply Kd.R_drewN | apply Kd.R_drew)); exact HO_3.out) hb); have n1_ := Aside0.mk (Kd.R_elder' (by (with_reducible repeat (first | apply Kd.R_alloc | apply Kd.R_drewN | apply Kd.R_drew)); exact HO_6.out) (Kd.R_base ho0) hb); have n2_ := Aside0.mk (Kd.R_below (by (with_reducible repeat (first | apply Kd.R_alloc | apply Kd.R_drewN | apply Kd.R_drew)); exact HO_7.out) hb); have n3_ := Aside0.mk (Kd.R_below (by (with_reducible repeat (first | apply Kd.R_alloc | apply Kd.R_drewN | apply Kd.R_drew)); exact HO_8.out) hb); have n4_ := Aside0.mk (Kd.R_elder' (by (with_reducible repeat (first | apply Kd.R_alloc | apply Kd.R_drewN | apply Kd.R_drew)); exact HO713.out) (Kd.R_base ho0) hb); have n5_ := Aside0.mk (Kd.R_lower (Kd.R_new' (Kd.R_new' ho0 (Kd.R_lt (by (with_reducible repeat (first | apply Kd.R_alloc | apply Kd.R_drewN | apply Kd.R_drew)); exact HO_6.out))) (Kd.R_lt (by (with_reducible repeat (first | apply Kd.R_alloc | apply Kd.R_drewN | apply Kd.R_drew)); exact HO713.out))) (below_size bel)); have n6_ := Aside0.mk (below_step bel hb); clear HO_3; clear HO_6; clear HO_7; clear HO_8; clear HO713; clear HB; have HO_3 := n0_; have HO_6 := n1_; have HO_7 := n2_; have HO_8 := n3_; have HO713 := n4_; have HO716 := n5_; have HB := n6_; clear n0_ n1_ n2_ n3_ n4_ n5_ n6_; (try clear hb); (try clear hb2); (try clear hk); (try clear hi); (try clear ho0))); go_upto_region 14 with (first | (go_at_call 47; (with_reducible refine (impl_WarpTimes.calls k1 _ _ t704 x9_1 t711 _ ?side1 ?side2 A18.out).mono ?_); (case side1 => repeat (first | exact (Kd.R_reads' HO_7.out).2.2 | (with_reducible refine Kd.C_alloc ?_ _) | (with_reducible refine Kd.C_drewN ?_ _) | (with_reducible refine Kd.C_drew ?_))); (case side2 => exact (Kd.R_reads' HO_7.out).2.1); rintro e w22 ⟨v712, rfl, ho0, hb⟩; have n0_ := Aside0.mk (Kd.R_below (by (with_reducible repeat (first | apply Kd.R_alloc | apply Kd.R_drewN | apply Kd.R_drew)); exact HO_3.out) hb); have n1_ := Aside0.mk (Kd.R_elder' (by (with_reducible repeat (first | apply Kd.R_alloc | apply Kd.R_drewN | apply Kd.R_drew)); exact HO_6.out) (Kd.R_base ho0) hb); have n2_ := Aside0.mk (Kd.R_below (by (with_reducible repeat (first | apply Kd.R_alloc | apply Kd.R_drewN | apply Kd.R_drew)); exact HO_7.out) hb); have n3_ := Aside0.mk (Kd.R_below (by (with_reducible repeat (first | apply Kd.R_alloc | apply Kd.R_drewN | apply Kd.R_drew)); exact HO_8.out) hb); have n4_ := Aside0.mk (Kd.R_lower (Kd.R_new' ho0 (Kd.R_lt (by (with_reducible repeat (first | apply Kd.R_alloc | apply Kd.R_drewN | apply Kd.R_drew)); exact HO_6.out))) (below_size bel)); have n5_ := Aside0.mk (below_step bel hb); clear HO_3; clear HO_6; clear HO_7; clear HO_8; clear HB; have HO_3 := n0_; have HO_6 := n1_; have HO_7 := n2_; have HO_8 := n3_; have HO713 := n4_; have HB := n5_; clear n0_ n1_ n2_ n3_ n4_ n5_; (try clear hb); (try clear hb2); (try clear hk); (try clear hi); (try clear ho0); obtain ⟨Ao23, co23, eo23⟩ := Kd.R_slice HO_8.out; subst eo23) | (go_at_call 47; (with_reducible refine (impl_WarpTimes.calls k1 _ _ t707 x9_1 t714 _ ?side1 ?side2 A19.out).mono ?_); (case side1 => repeat (first | exact (Kd.R_reads' HO_8.out).2.2 | (with_reducible refine Kd.C_alloc ?_ _) | (with_reducible refine Kd.C_drewN ?_ _) | (with_reducible refine Kd.C_drew ?_))); (case side2 => exact (Kd.R_reads' HO_8.out).2.1); rintro e w24 ⟨v715, rfl, ho0, hb⟩; have n0_ := Aside0.mk (Kd.R_below (by (with_reducible repeat (first | apply Kd.R_alloc | apply Kd.R_drewN | apply Kd.R_drew)); exact HO_3.out) hb); have n1_ := Aside0.mk (Kd.R_elder' (by (with_reducible repeat (first | apply Kd.R_alloc | apply Kd.R_drewN | apply Kd.R_drew)); exact HO_6.out) (Kd.R_base ho0) hb); have n2_ := Aside0.mk (Kd.R_below (by (with_reducible repeat (first | apply Kd.R_alloc | apply Kd.R_drewN | apply Kd.R_drew)); exact HO_7.out) hb); have n3_ := Aside0.mk (Kd.R_below (by (with_reducible repeat (first | apply Kd.R_alloc | apply Kd.R_drewN | apply Kd.R_drew)); exact HO_8.out) hb); have n4_ := Aside0.mk (Kd.R_elder' (by (with_reducible repeat (first | apply Kd.R_alloc | apply Kd.R_drewN | apply Kd.R_drew)); exact HO713.out) (Kd.R_base ho0) hb); have n5_ := Aside0.mk (Kd.R_lower (Kd.R_new' (Kd.R_new' ho0 (Kd.R_lt (by (with_reducible repeat (first | apply Kd.R_alloc | apply Kd.R_drewN | apply Kd.R_drew)); exact HO_6.out))) (Kd.R_lt (by (with_reducible repeat (first | apply Kd.R_alloc | apply Kd.R_drewN | apply Kd.R_drew)); exact HO713.out))) (below_size bel)); have n6_ := Aside0.mk (below_step bel hb); clear HO_3; clear HO_6; clear HO_7; clear HO_8; clear HO713; clear HB; have HO_3 := n0_; have HO_6 := n1_; have HO_7 := n2_; have HO_8 := n3_; have HO713 := n4_; have HO716 := n5_; have HB := n6_; clear n0_ n1_ n2_ n3_ n4_ n5_ n6_; (try clear hb); (try clear hb2); (try clear hk); (try clear hi); (try clear ho0))))
      (try simp only [Act.put, List.setIfInBounds_toArray, List.set_cons_zero, List.set_cons_succ])
      go_cut [61] (fun v61 wc => ∃ (kq : Nat) (x61_19 : Bool), v61 = .bool x61_19 ∧ Aside0 (laws_FnHiding.j1 kq t694 (wrap64 (1 + (Int.tmod (rd t697 0) 8))) t701 t704 t707 x9_1 t711 t714 x61_19 = some r) ∧ Aside0 (kq ≤ k1) ∧ Aside0 (Kd.R k45 45 wc w.heap.size (fun _ => True) (.slice Ao13 t694.length co13) t694) ∧ Aside0 (Kd.R (Kd.int .i64) 3 wc w.heap.size (fun k_ => some k_ ≠ (v712 : Value).ownBlock ∧ some k_ ≠ (v715 : Value).ownBlock) v702 t701) ∧ Aside0 (Kd.R k49 49 wc w.heap.size (fun k_ => some k_ ≠ ((.slice Ao23 t707.length co23) : Value).ownBlock) (.slice Ao21 t704.length co21) t704) ∧ Aside0 (Kd.R k49 49 wc w.heap.size (fun k_ => some k_ ≠ ((.slice Ao21 t704.length co21) : Value).ownBlock) (.slice Ao23 t707.length co23) t707) ∧ Aside0 (Kd.R (Kd.int .i64) 3 wc w.heap.size (fun k_ => some k_ ≠ (v702 : Value).ownBlock ∧ some k_ ≠ (v715 : Value).ownBlock) v712 t711) ∧ Aside0 (Kd.R (Kd.int .i64) 3 wc w.heap.size (fun k_ => some k_ ≠ (v702 : Value).ownBlock ∧ some k_ ≠ (v712 : Value).ownBlock) v715 t714) ∧ Aside0 (Below w.heap.size w wc))
      case first =>
       have H := HC20.out
       clear HC20
       by_cases c25 : (t711.length : Int) = (t694.length : Int)
       ·
        rw [if_pos c25] at H
        have c25b0 : ((t711.length : Int) == (t694.length : Int)) = true := beq_iff_eq.mpr c25
        have c25b1 : ((t711.length : Int) != (t694.length : Int)) = false := bne_eq_false_iff_eq.mpr c25
        have c25b2 : (t711.length == t694.length) = true := by first | simpa using c25 | (simp at c25 ⊢; omega)
        clear c25
        (first | rw [c25b0] | (simp only [i64_w, i32_w]; rw [c25b0]) | skip)
        by_cases c26 : (t714.length : Int) = (t694.length : Int)
        ·
         rw [if_pos c26] at H
         have c26b0 : ((t714.length : Int) == (t694.length : Int)) = true := beq_iff_eq.mpr c26
         have c26b1 : ((t714.length : Int) != (t694.length : Int)) = false := bne_eq_false_iff_eq.mpr c26
         have c26b2 : (t714.length == t694.length) = true := by first | simpa using c26 | (simp at c26 ⊢; omega)
         clear c26
         have H' := Aside0.mk H
         clear H
         obtain ⟨Ao27, co27, eo27⟩ := Kd.R_slice HO713.out
         subst eo27
         obtain ⟨Ao28, co28, eo28⟩ := Kd.R_slice HO716.out
         subst eo28
         obtain ⟨Ao29, co29, eo29⟩ := Kd.R_slice HO_6.out
         subst eo29
         go_wp2
         repeat (go_quiet (fail); try go_wp2)
         go_meet
         case rel => exact ⟨_, (((t701.length : Int) != (t694.length : Int))), fr, H', ⟨by have := HK1.out; first | omega | exact Nat.le_refl _⟩, ⟨by (with_reducible repeat (first | apply Kd.R_alloc | apply Kd.R_drewN | apply Kd.R_drew)); exact HO_3.out⟩, ⟨by (with_reducible repeat (first | apply Kd.R_alloc | apply Kd.R_drewN | apply Kd.R_drew)); exact Kd.R_mono HO_6.out (fun _ hk => ⟨hk.1.2, hk.2⟩)⟩, ⟨by (with_reducible repeat (first | apply Kd.R_alloc | apply Kd.R_drewN | apply Kd.R_drew)); exact HO_7.out⟩, ⟨by (with_reducible repeat (first | apply Kd.R_alloc | apply Kd.R_drewN | apply Kd.R_drew)); exact HO_8.out⟩, ⟨by (with_reducible repeat (first | apply Kd.R_alloc | apply Kd.R_drewN | apply Kd.R_drew)); exact Kd.R_mono HO713.out (fun _ hk => ⟨hk.1.2, hk.2⟩)⟩, ⟨by (with_reducible repeat (first | apply Kd.R_alloc | apply Kd.R_drewN | apply Kd.R_drew)); exact Kd.R_mono HO716.out (fun _ hk => ⟨hk.1.2, hk.2⟩)⟩, ⟨bel⟩⟩
        ·
         rw [if_neg c26] at H
         have c26b0 : ((t714.length : Int) == (t694.length : Int)) = false := beq_eq_false_iff_ne.mpr c26
         have c26b1 : ((t714.length : Int) != (t694.length : Int)) = true := bne_iff_ne.mpr c26
         have c26b2 : (t714.length == t694.length) = false := by first | simpa using c26 | (simp at c26 ⊢; omega)
         have H' := Aside0.mk H
         clear H
         obtain ⟨Ao30, co30, eo30⟩ := Kd.R_slice HO713.out
         subst eo30
         obtain ⟨Ao31, co31, eo31⟩ := Kd.R_slice HO716.out
         subst eo31
         go_wp2
         repeat (go_quiet (fail); try go_wp2)
         go_meet
         case rel => exact ⟨_, (true), fr, H', ⟨by have := HK1.out; first | omega | exact Nat.le_refl _⟩, ⟨by (with_reducible repeat (first | apply Kd.R_alloc | apply Kd.R_drewN | apply Kd.R_drew)); exact HO_3.out⟩, ⟨by (with_reducible repeat (first | apply Kd.R_alloc | apply Kd.R_drewN | apply Kd.R_drew)); exact Kd.R_mono HO_6.out (fun _ hk => ⟨hk.1.2, hk.2⟩)⟩, ⟨by (with_reducible repeat (first | apply Kd.R_alloc | apply Kd.R_drewN | apply Kd.R_drew)); exact HO_7.out⟩, ⟨by (with_reducible repeat (first | apply Kd.R_alloc | apply Kd.R_drewN | apply Kd.R_drew)); exact HO_8.out⟩, ⟨by (with_reducible repeat (first | apply Kd.R_alloc | apply Kd.R_drewN | apply Kd.R_drew)); exact Kd.R_mono HO713.out (fun _ hk => ⟨hk.1.2, hk.2⟩)⟩, ⟨by (with_reducible repeat (first | apply Kd.R_alloc | apply Kd.R_drewN | apply Kd.R_drew)); exact Kd.R_mono HO716.out (fun _ hk => ⟨hk.1.2, hk.2⟩)⟩, ⟨bel⟩⟩
       ·
        rw [if_neg c25] at H
        have c25b0 : ((t711.length : Int) == (t694.length : Int)) = false := beq_eq_false_iff_ne.mpr c25
        have c25b1 : ((t711.length : Int) != (t694.length : Int)) = true := bne_iff_ne.mpr c25
        have c25b2 : (t711.length == t694.length) = false := by first | simpa using c25 | (simp at c25 ⊢; omega)
        (first | rw [c25b0] | (simp only [i64_w, i32_w]; rw [c25b0]) | skip)
        have H' := Aside0.mk H
        clear H
        obtain ⟨Ao32, co32, eo32⟩ := Kd.R_slice HO713.out
        subst eo32
        go_wp2
        repeat (go_quiet (fail); try go_wp2)
        go_meet
        case rel => exact ⟨_, (true), fr, H', ⟨by have := HK1.out; first | omega | exact Nat.le_refl _⟩, ⟨by (with_reducible repeat (first | apply Kd.R_alloc | apply Kd.R_drewN | apply Kd.R_drew)); exact HO_3.out⟩, ⟨by (with_reducible repeat (first | apply Kd.R_alloc | apply Kd.R_drewN | apply Kd.R_drew)); exact Kd.R_mono HO_6.out (fun _ hk => ⟨hk.1.2, hk.2⟩)⟩, ⟨by (with_reducible repeat (first | apply Kd.R_alloc | apply Kd.R_drewN | apply Kd.R_drew)); exact HO_7.out⟩, ⟨by (with_reducible repeat (first | apply Kd.R_alloc | apply Kd.R_drewN | apply Kd.R_drew)); exact HO_8.out⟩, ⟨by (with_reducible repeat (first | apply Kd.R_alloc | apply Kd.R_drewN | apply Kd.R_drew)); exact Kd.R_mono HO713.out (fun _ hk => ⟨hk.1.2, hk.2⟩)⟩, ⟨by (with_reducible repeat (first | apply Kd.R_alloc | apply Kd.R_drewN | apply Kd.R_drew)); exact Kd.R_mono HO716.out (fun _ hk => ⟨hk.1.2, hk.2⟩)⟩, ⟨bel⟩⟩
      case rest =>
       clear HC20
       try clear c1
       try clear c2
       try clear p2
       try clear c3
       try clear c6
       try clear c6b0
       try clear c6b1
       try clear p6
       try clear p7
       try clear q7
       try clear hx7
       try clear qi7
       try clear c11
       try clear c17
       try clear c17b0
       try clear c25
       try clear c25b0
       try clear c25b1
       try clear c25b2
       try clear c26
       try clear c26b0
       try clear c26b1
       try clear c26b2
       try clear hx700_0
       try clear p2
       try clear p6
       try clear p7
       try clear p700
       try clear q7
       try clear q700
       obtain ⟨kq, x61_19, rfl, HA, HJ19, HO_3, HO_6, HO_7, HO_8, HO_10, HO_11, HB⟩ := hcut
       cases kq with
       | zero => exact absurd HA.out (by simp [laws_FnHiding.j1])
       | succ kj19 =>
        have H := HA.out
        clear HA
        simp only [laws_FnHiding.j1] at H
        by_cases c33 : x61_19 = true
        ·
         subst c33
         have H1 : (some false) = some r := by rw [if_pos rfl] at H; exact H
         clear H
         have H := H1
         clear H1
         obtain rfl := Option.some.inj H
         go_wp2
         repeat (go_quiet (fail); try go_wp2)
         go_ret
         exact ⟨fe, bel⟩
        ·
         replace c33 := Bool.eq_false_iff.mpr c33
         subst c33
         have H1 : (laws_FnHiding.l1 kj19 t694 (wrap64 (1 + (Int.tmod (rd t697 0) 8))) t701 t704 t707 x9_1 t711 t714 0) = some r := by rw [if_neg (show ¬ (false = true) by decide)] at H; exact H
         clear H
         have H := H1
         clear H1
         have H' := Aside0.mk H
         clear H
         go_wp2
         repeat (go_quiet (fail); try go_wp2)
         go_loopg [12] kj19 (fun kq v12 w' => ∃ (x12_3 : Int), v12 = .int .i64 x12_3 ∧ Aside0 (laws_FnHiding.l1 kq t694 (wrap64 (1 + (Int.tmod (rd t697 0) 8))) t701 t704 t707 x9_1 t711 t714 x12_3 = some r) ∧ Aside0 (kq ≤ kj19) ∧ Aside0 (Kd.R k45 45 w' w.heap.size (fun _ => True) (.slice Ao13 t694.length co13) t694) ∧ Aside0 (Kd.R (Kd.int .i64) 3 w' w.heap.size (fun k_ => some k_ ≠ (v712 : Value).ownBlock ∧ some k_ ≠ (v715 : Value).ownBlock) v702 t701) ∧ Aside0 (Kd.R k49 49 w' w.heap.size (fun k_ => some k_ ≠ ((.slice Ao23 t707.length co23) : Value).ownBlock) (.slice Ao21 t704.length co21) t704) ∧ Aside0 (Kd.R k49 49 w' w.heap.size (fun k_ => some k_ ≠ ((.slice Ao21 t704.length co21) : Value).ownBlock) (.slice Ao23 t707.length co23) t707) ∧ Aside0 (Kd.R (Kd.int .i64) 3 w' w.heap.size (fun k_ => some k_ ≠ (v702 : Value).ownBlock ∧ some k_ ≠ (v715 : Value).ownBlock) v712 t711) ∧ Aside0 (Kd.R (Kd.int .i64) 3 w' w.heap.size (fun k_ => some k_ ≠ (v702 : Value).ownBlock ∧ some k_ ≠ (v712 : Value).ownBlock) v715 t714) ∧ Aside0 (Below w.heap.size w w'))
         case atStart => exact ⟨(0), fr, H', ⟨Nat.le_refl _⟩, ⟨by (with_reducible repeat (first | apply Kd.R_alloc | apply Kd.R_drewN | apply Kd.R_drew)); exact HO_3.out⟩, ⟨by (with_reducible repeat (first | apply Kd.R_alloc | apply Kd.R_drewN | apply Kd.R_drew)); exact HO_6.out⟩, ⟨by (with_reducible repeat (first | apply Kd.R_alloc | apply Kd.R_drewN | apply Kd.R_drew)); exact HO_7.out⟩, ⟨by (with_reducible repeat (first | apply Kd.R_alloc | apply Kd.R_drewN | apply Kd.R_drew)); exact HO_8.out⟩, ⟨by (with_reducible repeat (first | apply Kd.R_alloc | apply Kd.R_drewN | apply Kd.R_drew)); exact HO_10.out⟩, ⟨by (with_reducible repeat (first | apply Kd.R_alloc | apply Kd.R_drewN | apply Kd.R_drew)); exact HO_11.out⟩, ⟨bel⟩⟩
         case round =>
          clear H'
          try clear c1
          try clear c2
          try clear p2
          try clear c3
          try clear c6
          try clear c6b0
          try clear c6b1
          try clear p6
          try clear p7
          try clear q7
          try clear hx7
          try clear qi7
          try clear c11
          try clear c17
          try clear c17b0
          try clear c25
          try clear c25b0
          try clear c25b1
          try clear c25b2
          try clear c26
          try clear c26b0
          try clear c26b1
          try clear c26b2
          try clear c33
          try clear hx700_0
          try clear p2
          try clear p6
          try clear p7
          try clear p700
          try clear q7
          try clear q700
          obtain ⟨x12_3, rfl, HA, HK3, HO_3, HO_6, HO_7, HO_8, HO_10, HO_11, HB⟩ := hrel
          cases gk with
          | zero => exact absurd HA.out (by simp [laws_FnHiding.l1])
          | succ k3 =>
           have H := HA.out
           clear HA
           simp only [laws_FnHiding.l1] at H
           by_cases c34 : x12_3 < (t694.length : Int)
           ·
            rw [if_pos c34] at H
            have c34b0 : decide (x12_3 < (t694.length : Int)) = true := decide_eq_true c34
            clear c34
            by_cases c35 : 0 ≤ x12_3
            ·
             rw [if_pos c35] at H
             have c35b0 : decide (0 ≤ x12_3) = true := decide_eq_true c35
             clear c35
             by_cases c36 : x12_3 < (t711.length : Int)
             ·
              rw [if_pos c36] at H
              have c36b0 : decide (x12_3 < (t711.length : Int)) = true := decide_eq_true c36
              clear c36
              by_cases c37 : x12_3 < (t701.length : Int)
              ·
               rw [if_pos c37] at H
               have c37b0 : decide (x12_3 < (t701.length : Int)) = true := decide_eq_true c37
               clear c37
               by_cases c38 : (rd t711 x12_3) < (rd t701 x12_3)
               ·
                rw [if_pos c38] at H
                have c38b0 : decide ((rd t711 x12_3) < (rd t701 x12_3)) = true := decide_eq_true c38
                clear c38
                obtain rfl := Option.some.inj H
                obtain ⟨Ao39, co39, eo39⟩ := Kd.R_slice HO_10.out
                subst eo39
                have p717 : 0 ≤ (x12_3 : Int) := odt
                have q717 : x12_3 < (t711.length : Int) := odt
                obtain ⟨ad717, e717, hx717_0⟩ := Kd.at_int (Kd.R_reads' HO_10.out).2.2 x12_3 p717 q717
                cases e717
                replace p717 := eq_true p717
                replace q717 := eq_true q717
                obtain ⟨Ao40, co40, eo40⟩ := Kd.R_slice HO_6.out
                subst eo40
                have p718 : 0 ≤ (x12_3 : Int) := odt
                have q718 : x12_3 < (t701.length : Int) := odt
                obtain ⟨ad718, e718, hx718_0⟩ := Kd.at_int (Kd.R_reads' HO_6.out).2.2 x12_3 p718 q718
                cases e718
                replace p718 := eq_true p718
                replace q718 := eq_true q718
                go_wp2
                repeat (go_quiet (fail); try go_wp2)
                go_ret
                exact ⟨fe, bel⟩
               ·
                rw [if_neg c38] at H
                have c38b0 : decide ((rd t711 x12_3) < (rd t701 x12_3)) = false := decide_eq_false c38
                clear c38
                by_cases c41 : x12_3 < (t714.length : Int)
                ·
                 rw [if_pos c41] at H
                 have c41b0 : decide (x12_3 < (t714.length : Int)) = true := decide_eq_true c41
                 clear c41
                 by_cases c42 : (rd t714 x12_3) < (rd t701 x12_3)
                 ·
                  rw [if_pos c42] at H
                  have c42b0 : decide ((rd t714 x12_3) < (rd t701 x12_3)) = true := decide_eq_true c42
                  clear c42
                  obtain rfl := Option.some.inj H
                  obtain ⟨Ao43, co43, eo43⟩ := Kd.R_slice HO_10.out
                  subst eo43
                  have p717 : 0 ≤ (x12_3 : Int) := odt
                  have q717 : x12_3 < (t711.length : Int) := odt
                  obtain ⟨ad717, e717, hx717_0⟩ := Kd.at_int (Kd.R_reads' HO_10.out).2.2 x12_3 p717 q717
                  cases e717
                  replace p717 := eq_true p717
                  replace q717 := eq_true q717
                  obtain ⟨Ao44, co44, eo44⟩ := Kd.R_slice HO_6.out
                  subst eo44
                  have p718 : 0 ≤ (x12_3 : Int) := odt
                  have q718 : x12_3 < (t701.length : Int) := odt
                  obtain ⟨ad718, e718, hx718_0⟩ := Kd.at_int (Kd.R_reads' HO_6.out).2.2 x12_3 p718 q718
                  cases e718
                  replace p718 := eq_true p718
                  replace q718 := eq_true q718
                  obtain ⟨Ao45, co45, eo45⟩ := Kd.R_slice HO_11.out
                  subst eo45
                  have p719 : 0 ≤ (x12_3 : Int) := odt
                  have q719 : x12_3 < (t714.length : Int) := odt
                  obtain ⟨ad719, e719, hx719_0⟩ := Kd.at_int (Kd.R_reads' HO_11.out).2.2 x12_3 p719 q719
                  cases e719
                  replace p719 := eq_true p719
                  replace q719 := eq_true q719
                  have p720 : 0 ≤ (x12_3 : Int) := odt
                  have q720 : x12_3 < (t701.length : Int) := odt
                  obtain ⟨ad720, e720, hx720_0⟩ := Kd.at_int (Kd.R_reads' HO_6.out).2.2 x12_3 p720 q720
                  obtain rfl : ad718 = ad720 := (by injection e720)
                  replace p720 := eq_true p720
                  replace q720 := eq_true q720
                  go_wp2
                  repeat (go_quiet (fail); try go_wp2)
                  go_ret
                  exact ⟨fe, bel⟩
                 ·
                  rw [if_neg c42] at H
                  have c42b0 : decide ((rd t714 x12_3) < (rd t701 x12_3)) = false := decide_eq_false c42
                  clear c42
                  by_cases c46 : x9_1 = 0
                  ·
                   rw [if_pos c46] at H
                   have c46b0 : (x9_1 == 0) = true := beq_iff_eq.mpr c46
                   have c46b1 : (x9_1 != 0) = false := bne_eq_false_iff_eq.mpr c46
                   clear c46
                   by_cases c47 : (rd t711 x12_3) = (rd t701 x12_3)
                   ·
                    rw [if_pos c47] at H
                    have c47b0 : ((rd t711 x12_3) == (rd t701 x12_3)) = true := beq_iff_eq.mpr c47
                    have c47b1 : ((rd t711 x12_3) != (rd t701 x12_3)) = false := bne_eq_false_iff_eq.mpr c47
                    clear c47
                    by_cases c48 : x12_3 > 0
                    ·
                     rw [if_pos c48] at H
                     have c48b0 : decide (0 < x12_3) = true := decide_eq_true c48
                     clear c48
                     obtain ⟨ji49, hji49⟩ : ∃ j_ : Int, (wrap64 (x12_3 - 1)) = j_ := ⟨_, rfl⟩
                     replace H : (if 0 ≤ (ji49) then (if (ji49) < (t711.length : Int) then (if (rd t711 x12_3) ≤ (rd t711 (ji49)) then (some false) else (if (ji49) < (t714.length : Int) then (if (rd t714 x12_3) ≤ (rd t714 (ji49)) then (some false) else (laws_FnHiding.l1 k3 t694 (wrap64 (1 + (Int.tmod (rd t697 0) 8))) t701 t704 t707 x9_1 t711 t714 (wrap64 (x12_3 + 1)))) else (none))) else (none)) else (none)) = some r := by first | (rw [hji49] at H; exact H) | (simp only [hji49] at H ⊢; exact H)
                     have hji49w : (IntKind.i64.wrap (x12_3 - 1)) = ji49 := (i64_w _).trans hji49
                     by_cases c50 : 0 ≤ (ji49)
                     ·
                      rw [if_pos c50] at H
                      have c50b0 : decide (0 ≤ (ji49)) = true := decide_eq_true c50
                      clear c50
                      by_cases c51 : (ji49) < (t711.length : Int)
                      ·
                       rw [if_pos c51] at H
                       have c51b0 : decide ((ji49) < (t711.length : Int)) = true := decide_eq_true c51
                       clear c51
                       by_cases c52 : (rd t711 x12_3) ≤ (rd t711 (ji49))
                       ·
                        rw [if_pos c52] at H
                        have c52b0 : decide ((rd t711 x12_3) ≤ (rd t711 (ji49))) = true := decide_eq_true c52
                        clear c52
                        obtain rfl := Option.some.inj H
                        obtain ⟨Ao53, co53, eo53⟩ := Kd.R_slice HO_10.out
                        subst eo53
                        have p717 : 0 ≤ (x12_3 : Int) := odt
                        have q717 : x12_3 < (t711.length : Int) := odt
                        obtain ⟨ad717, e717, hx717_0⟩ := Kd.at_int (Kd.R_reads' HO_10.out).2.2 x12_3 p717 q717
                        cases e717
                        replace p717 := eq_true p717
                        replace q717 := eq_true q717
                        obtain ⟨Ao54, co54, eo54⟩ := Kd.R_slice HO_6.out
                        subst eo54
                        have p718 : 0 ≤ (x12_3 : Int) := odt
                        have q718 : x12_3 < (t701.length : Int) := odt
                        obtain ⟨ad718, e718, hx718_0⟩ := Kd.at_int (Kd.R_reads' HO_6.out).2.2 x12_3 p718 q718
                        cases e718
                        replace p718 := eq_true p718
                        replace q718 := eq_true q718
                        obtain ⟨Ao55, co55, eo55⟩ := Kd.R_slice HO_11.out
                        subst eo55
                        have p719 : 0 ≤ (x12_3 : Int) := odt
                        have q719 : x12_3 < (t714.length : Int) := odt
                        obtain ⟨ad719, e719, hx719_0⟩ := Kd.at_int (Kd.R_reads' HO_11.out).2.2 x12_3 p719 q719
                        cases e719
                        replace p719 := eq_true p719
                        replace q719 := eq_true q719
                        have p720 : 0 ≤ (x12_3 : Int) := odt
                        have q720 : x12_3 < (t701.length : Int) := odt
                        obtain ⟨ad720, e720, hx720_0⟩ := Kd.at_int (Kd.R_reads' HO_6.out).2.2 x12_3 p720 q720
                        obtain rfl : ad718 = ad720 := (by injection e720)
                        replace p720 := eq_true p720
                        replace q720 := eq_true q720
                        have p721 : 0 ≤ (x12_3 : Int) := odt
                        have q721 : x12_3 < (t711.length : Int) := odt
                        obtain ⟨ad721, e721, hx721_0⟩ := Kd.at_int (Kd.R_reads' HO_10.out).2.2 x12_3 p721 q721
                        obtain rfl : ad717 = ad721 := (by injection e721)
                        replace p721 := eq_true p721
                        replace q721 := eq_true q721
                        have p722 : 0 ≤ (x12_3 : Int) := odt
                        have q722 : x12_3 < (t701.length : Int) := odt
                        obtain ⟨ad722, e722, hx722_0⟩ := Kd.at_int (Kd.R_reads' HO_6.out).2.2 x12_3 p722 q722
                        obtain rfl : ad718 = ad722 := (by injection e722)
                        replace p722 := eq_true p722
                        replace q722 := eq_true q722
                        have p723 : 0 ≤ (x12_3 : Int) := odt
                        have q723 : x12_3 < (t711.length : Int) := odt
                        obtain ⟨ad723, e723, hx723_0⟩ := Kd.at_int (Kd.R_reads' HO_10.out).2.2 x12_3 p723 q723
                        obtain rfl : ad717 = ad723 := (by injection e723)
                        replace p723 := eq_true p723
                        replace q723 := eq_true q723
                        have p724 : 0 ≤ ((ji49) : Int) := odt
                        have q724 : (ji49) < (t711.length : Int) := odt
                        obtain ⟨ad724, e724, hx724_0⟩ := Kd.at_int (Kd.R_reads' HO_10.out).2.2 (ji49) p724 q724
                        obtain rfl : ad717 = ad724 := (by injection e724)
                        replace p724 := eq_true p724
                        replace q724 := eq_true q724
                        go_wp2
                        repeat (go_quiet (fail); try go_wp2)
                        go_ret
                        exact ⟨by first | rfl | (simp [errW_none, errW_some] <;> rfl) | (simp only [← hji49]; first | rfl | (simp [errW_none, errW_some] <;> rfl)) | (simp [*, errW_none, errW_some] <;> rfl), bel⟩
                       ·
                        rw [if_neg c52] at H
                        have c52b0 : decide ((rd t711 x12_3) ≤ (rd t711 (ji49))) = false := decide_eq_false c52
                        clear c52
                        by_cases c56 : (ji49) < (t714.length : Int)
                        ·
                         rw [if_pos c56] at H
                         have c56b0 : decide ((ji49) < (t714.length : Int)) = true := decide_eq_true c56
                         clear c56
                         by_cases c57 : (rd t714 x12_3) ≤ (rd t714 (ji49))
                         ·
                          rw [if_pos c57] at H
                          have c57b0 : decide ((rd t714 x12_3) ≤ (rd t714 (ji49))) = true := decide_eq_true c57
                          clear c57
                          obtain rfl := Option.some.inj H
                          obtain ⟨Ao58, co58, eo58⟩ := Kd.R_slice HO_10.out
                          subst eo58
                          have p717 : 0 ≤ (x12_3 : Int) := odt
                          have q717 : x12_3 < (t711.length : Int) := odt
                          obtain ⟨ad717, e717, hx717_0⟩ := Kd.at_int (Kd.R_reads' HO_10.out).2.2 x12_3 p717 q717
                          cases e717
                          replace p717 := eq_true p717
                          replace q717 := eq_true q717
                          obtain ⟨Ao59, co59, eo59⟩ := Kd.R_slice HO_6.out
                          subst eo59
                          have p718 : 0 ≤ (x12_3 : Int) := odt
                          have q718 : x12_3 < (t701.length : Int) := odt
                          obtain ⟨ad718, e718, hx718_0⟩ := Kd.at_int (Kd.R_reads' HO_6.out).2.2 x12_3 p718 q718
                          cases e718
                          replace p718 := eq_true p718
                          replace q718 := eq_true q718
                          obtain ⟨Ao60, co60, eo60⟩ := Kd.R_slice HO_11.out
                          subst eo60
                          have p719 : 0 ≤ (x12_3 : Int) := odt
                          have q719 : x12_3 < (t714.length : Int) := odt
                          obtain ⟨ad719, e719, hx719_0⟩ := Kd.at_int (Kd.R_reads' HO_11.out).2.2 x12_3 p719 q719
                          cases e719
                          replace p719 := eq_true p719
                          replace q719 := eq_true q719
                          have p720 : 0 ≤ (x12_3 : Int) := odt
                          have q720 : x12_3 < (t701.length : Int) := odt
                          obtain ⟨ad720, e720, hx720_0⟩ := Kd.at_int (Kd.R_reads' HO_6.out).2.2 x12_3 p720 q720
                          obtain rfl : ad718 = ad720 := (by injection e720)
                          replace p720 := eq_true p720
                          replace q720 := eq_true q720
                          have p721 : 0 ≤ (x12_3 : Int) := odt
                          have q721 : x12_3 < (t711.length : Int) := odt
                          obtain ⟨ad721, e721, hx721_0⟩ := Kd.at_int (Kd.R_reads' HO_10.out).2.2 x12_3 p721 q721
                          obtain rfl : ad717 = ad721 := (by injection e721)
                          replace p721 := eq_true p721
                          replace q721 := eq_true q721
                          have p722 : 0 ≤ (x12_3 : Int) := odt
                          have q722 : x12_3 < (t701.length : Int) := odt
                          obtain ⟨ad722, e722, hx722_0⟩ := Kd.at_int (Kd.R_reads' HO_6.out).2.2 x12_3 p722 q722
                          obtain rfl : ad718 = ad722 := (by injection e722)
                          replace p722 := eq_true p722
                          replace q722 := eq_true q722
                          have p723 : 0 ≤ (x12_3 : Int) := odt
                          have q723 : x12_3 < (t711.length : Int) := odt
                          obtain ⟨ad723, e723, hx723_0⟩ := Kd.at_int (Kd.R_reads' HO_10.out).2.2 x12_3 p723 q723
                          obtain rfl : ad717 = ad723 := (by injection e723)
                          replace p723 := eq_true p723
                          replace q723 := eq_true q723
                          have p724 : 0 ≤ ((ji49) : Int) := odt
                          have q724 : (ji49) < (t711.length : Int) := odt
                          obtain ⟨ad724, e724, hx724_0⟩ := Kd.at_int (Kd.R_reads' HO_10.out).2.2 (ji49) p724 q724
                          obtain rfl : ad717 = ad724 := (by injection e724)
                          replace p724 := eq_true p724
                          replace q724 := eq_true q724
                          have p725 : 0 ≤ (x12_3 : Int) := odt
                          have q725 : x12_3 < (t714.length : Int) := odt
                          obtain ⟨ad725, e725, hx725_0⟩ := Kd.at_int (Kd.R_reads' HO_11.out).2.2 x12_3 p725 q725
                          obtain rfl : ad719 = ad725 := (by injection e725)
                          replace p725 := eq_true p725
                          replace q725 := eq_true q725
                          have p726 : 0 ≤ ((ji49) : Int) := odt
                          have q726 : (ji49) < (t714.length : Int) := odt
                          obtain ⟨ad726, e726, hx726_0⟩ := Kd.at_int (Kd.R_reads' HO_11.out).2.2 (ji49) p726 q726
                          obtain rfl : ad719 = ad726 := (by injection e726)
                          replace p726 := eq_true p726
                          replace q726 := eq_true q726
                          go_wp2
                          repeat (go_quiet (fail); try go_wp2)
                          go_ret
                          exact ⟨by first | rfl | (simp [errW_none, errW_some] <;> rfl) | (simp only [← hji49]; first | rfl | (simp [errW_none, errW_some] <;> rfl)) | (simp [*, errW_none, errW_some] <;> rfl), bel⟩
                         ·
                          rw [if_neg c57] at H
                          have c57b0 : decide ((rd t714 x12_3) ≤ (rd t714 (ji49))) = false := decide_eq_false c57
                          clear c57
                          have H' := Aside0.mk H
                          clear H
                          obtain ⟨Ao61, co61, eo61⟩ := Kd.R_slice HO_10.out
                          subst eo61
                          have p717 : 0 ≤ (x12_3 : Int) := odt
                          have q717 : x12_3 < (t711.length : Int) := odt
                          obtain ⟨ad717, e717, hx717_0⟩ := Kd.at_int (Kd.R_reads' HO_10.out).2.2 x12_3 p717 q717
                          cases e717
                          replace p717 := eq_true p717
                          replace q717 := eq_true q717
                          obtain ⟨Ao62, co62, eo62⟩ := Kd.R_slice HO_6.out
                          subst eo62
                          have p718 : 0 ≤ (x12_3 : Int) := odt
                          have q718 : x12_3 < (t701.length : Int) := odt
                          obtain ⟨ad718, e718, hx718_0⟩ := Kd.at_int (Kd.R_reads' HO_6.out).2.2 x12_3 p718 q718
                          cases e718
                          replace p718 := eq_true p718
                          replace q718 := eq_true q718
                          obtain ⟨Ao63, co63, eo63⟩ := Kd.R_slice HO_11.out
                          subst eo63
                          have p719 : 0 ≤ (x12_3 : Int) := odt
                          have q719 : x12_3 < (t714.length : Int) := odt
                          obtain ⟨ad719, e719, hx719_0⟩ := Kd.at_int (Kd.R_reads' HO_11.out).2.2 x12_3 p719 q719
                          cases e719
                          replace p719 := eq_true p719
                          replace q719 := eq_true q719
                          have p720 : 0 ≤ (x12_3 : Int) := odt
                          have q720 : x12_3 < (t701.length : Int) := odt
                          obtain ⟨ad720, e720, hx720_0⟩ := Kd.at_int (Kd.R_reads' HO_6.out).2.2 x12_3 p720 q720
                          obtain rfl : ad718 = ad720 := (by injection e720)
                          replace p720 := eq_true p720
                          replace q720 := eq_true q720
                          have p721 : 0 ≤ (x12_3 : Int) := odt
                          have q721 : x12_3 < (t711.length : Int) := odt
                          obtain ⟨ad721, e721, hx721_0⟩ := Kd.at_int (Kd.R_reads' HO_10.out).2.2 x12_3 p721 q721
                          obtain rfl : ad717 = ad721 := (by injection e721)
                          replace p721 := eq_true p721
                          replace q721 := eq_true q721
                          have p722 : 0 ≤ (x12_3 : Int) := odt
                          have q722 : x12_3 < (t701.length : Int) := odt
                          obtain ⟨ad722, e722, hx722_0⟩ := Kd.at_int (Kd.R_reads' HO_6.out).2.2 x12_3 p722 q722
                          obtain rfl : ad718 = ad722 := (by injection e722)
                          replace p722 := eq_true p722
                          replace q722 := eq_true q722
                          have p723 : 0 ≤ (x12_3 : Int) := odt
                          have q723 : x12_3 < (t711.length : Int) := odt
                          obtain ⟨ad723, e723, hx723_0⟩ := Kd.at_int (Kd.R_reads' HO_10.out).2.2 x12_3 p723 q723
                          obtain rfl : ad717 = ad723 := (by injection e723)
                          replace p723 := eq_true p723
                          replace q723 := eq_true q723
                          have p724 : 0 ≤ ((ji49) : Int) := odt
                          have q724 : (ji49) < (t711.length : Int) := odt
                          obtain ⟨ad724, e724, hx724_0⟩ := Kd.at_int (Kd.R_reads' HO_10.out).2.2 (ji49) p724 q724
                          obtain rfl : ad717 = ad724 := (by injection e724)
                          replace p724 := eq_true p724
                          replace q724 := eq_true q724
                          have p725 : 0 ≤ (x12_3 : Int) := odt
                          have q725 : x12_3 < (t714.length : Int) := odt
                          obtain ⟨ad725, e725, hx725_0⟩ := Kd.at_int (Kd.R_reads' HO_11.out).2.2 x12_3 p725 q725
                          obtain rfl : ad719 = ad725 := (by injection e725)
                          replace p725 := eq_true p725
                          replace q725 := eq_true q725
                          have p726 : 0 ≤ ((ji49) : Int) := odt
                          have q726 : (ji49) < (t714.length : Int) := odt
                          obtain ⟨ad726, e726, hx726_0⟩ := Kd.at_int (Kd.R_reads' HO_11.out).2.2 (ji49) p726 q726
                          obtain rfl : ad719 = ad726 := (by injection e726)
                          replace p726 := eq_true p726
                          replace q726 := eq_true q726
                          go_wp2
                          repeat (go_quiet (fail); try go_wp2)
                          go_roundg k3
                          case measure => have := HK1.out; have := HJ19.out; have := HK3.out; omega
                          case rel => exact ⟨(wrap64 (x12_3 + 1)), fr, H', ⟨by have := HK1.out; have := HJ19.out; have := HK3.out; omega⟩, ⟨by (with_reducible repeat (first | apply Kd.R_alloc | apply Kd.R_drewN | apply Kd.R_drew)); exact HO_3.out⟩, ⟨by (with_reducible repeat (first | apply Kd.R_alloc | apply Kd.R_drewN | apply Kd.R_drew)); exact HO_6.out⟩, ⟨by (with_reducible repeat (first | apply Kd.R_alloc | apply Kd.R_drewN | apply Kd.R_drew)); exact HO_7.out⟩, ⟨by (with_reducible repeat (first | apply Kd.R_alloc | apply Kd.R_drewN | apply Kd.R_drew)); exact HO_8.out⟩, ⟨by (with_reducible repeat (first | apply Kd.R_alloc | apply Kd.R_drewN | apply Kd.R_drew)); exact HO_10.out⟩, ⟨by (with_reducible repeat (first | apply Kd.R_alloc | apply Kd.R_drewN | apply Kd.R_drew)); exact HO_11.out⟩, ⟨bel⟩⟩
                        ·
                         rw [if_neg c56] at H
                         exact absurd H (by simp)
                      ·
                       rw [if_neg c51] at H
                       exact absurd H (by simp)
                     ·
                      rw [if_neg c50] at H
                      exact absurd H (by simp)
                    ·
                     rw [if_neg c48] at H
                     have c48b0 : decide (0 < x12_3) = false := decide_eq_false c48
                     clear c48
                     have H' := Aside0.mk H
                     clear H
                     obtain ⟨Ao64, co64, eo64⟩ := Kd.R_slice HO_10.out
                     subst eo64
                     have p717 : 0 ≤ (x12_3 : Int) := odt
                     have q717 : x12_3 < (t711.length : Int) := odt
                     obtain ⟨ad717, e717, hx717_0⟩ := Kd.at_int (Kd.R_reads' HO_10.out).2.2 x12_3 p717 q717
                     cases e717
                     replace p717 := eq_true p717
                     replace q717 := eq_true q717
                     obtain ⟨Ao65, co65, eo65⟩ := Kd.R_slice HO_6.out
                     subst eo65
                     have p718 : 0 ≤ (x12_3 : Int) := odt
                     have q718 : x12_3 < (t701.length : Int) := odt
                     obtain ⟨ad718, e718, hx718_0⟩ := Kd.at_int (Kd.R_reads' HO_6.out).2.2 x12_3 p718 q718
                     cases e718
                     replace p718 := eq_true p718
                     replace q718 := eq_true q718
                     obtain ⟨Ao66, co66, eo66⟩ := Kd.R_slice HO_11.out
                     subst eo66
                     have p719 : 0 ≤ (x12_3 : Int) := odt
                     have q719 : x12_3 < (t714.length : Int) := odt
                     obtain ⟨ad719, e719, hx719_0⟩ := Kd.at_int (Kd.R_reads' HO_11.out).2.2 x12_3 p719 q719
                     cases e719
                     replace p719 := eq_true p719
                     replace q719 := eq_true q719
                     have p720 : 0 ≤ (x12_3 : Int) := odt
                     have q720 : x12_3 < (t701.length : Int) := odt
                     obtain ⟨ad720, e720, hx720_0⟩ := Kd.at_int (Kd.R_reads' HO_6.out).2.2 x12_3 p720 q720
                     obtain rfl : ad718 = ad720 := (by injection e720)
                     replace p720 := eq_true p720
                     replace q720 := eq_true q720
                     have p721 : 0 ≤ (x12_3 : Int) := odt
                     have q721 : x12_3 < (t711.length : Int) := odt
                     obtain ⟨ad721, e721, hx721_0⟩ := Kd.at_int (Kd.R_reads' HO_10.out).2.2 x12_3 p721 q721
                     obtain rfl : ad717 = ad721 := (by injection e721)
                     replace p721 := eq_true p721
                     replace q721 := eq_true q721
                     have p722 : 0 ≤ (x12_3 : Int) := odt
                     have q722 : x12_3 < (t701.length : Int) := odt
                     obtain ⟨ad722, e722, hx722_0⟩ := Kd.at_int (Kd.R_reads' HO_6.out).2.2 x12_3 p722 q722
                     obtain rfl : ad718 = ad722 := (by injection e722)
                     replace p722 := eq_true p722
                     replace q722 := eq_true q722
                     go_wp2
                     repeat (go_quiet (fail); try go_wp2)
                     go_roundg k3
                     case measure => have := HK1.out; have := HJ19.out; have := HK3.out; omega
                     case rel => exact ⟨(wrap64 (x12_3 + 1)), fr, H', ⟨by have := HK1.out; have := HJ19.out; have := HK3.out; omega⟩, ⟨by (with_reducible repeat (first | apply Kd.R_alloc | apply Kd.R_drewN | apply Kd.R_drew)); exact HO_3.out⟩, ⟨by (with_reducible repeat (first | apply Kd.R_alloc | apply Kd.R_drewN | apply Kd.R_drew)); exact HO_6.out⟩, ⟨by (with_reducible repeat (first | apply Kd.R_alloc | apply Kd.R_drewN | apply Kd.R_drew)); exact HO_7.out⟩, ⟨by (with_reducible repeat (first | apply Kd.R_alloc | apply Kd.R_drewN | apply Kd.R_drew)); exact HO_8.out⟩, ⟨by (with_reducible repeat (first | apply Kd.R_alloc | apply Kd.R_drewN | apply Kd.R_drew)); exact HO_10.out⟩, ⟨by (with_reducible repeat (first | apply Kd.R_alloc | apply Kd.R_drewN | apply Kd.R_drew)); exact HO_11.out⟩, ⟨bel⟩⟩
                   ·
                    rw [if_neg c47] at H
                    have c47b0 : ((rd t711 x12_3) == (rd t701 x12_3)) = false := beq_eq_false_iff_ne.mpr c47
                    have c47b1 : ((rd t711 x12_3) != (rd t701 x12_3)) = true := bne_iff_ne.mpr c47
                    obtain rfl := Option.some.inj H
                    obtain ⟨Ao67, co67, eo67⟩ := Kd.R_slice HO_10.out
                    subst eo67
                    have p717 : 0 ≤ (x12_3 : Int) := odt
                    have q717 : x12_3 < (t711.length : Int) := odt
                    obtain ⟨ad717, e717, hx717_0⟩ := Kd.at_int (Kd.R_reads' HO_10.out).2.2 x12_3 p717 q717
                    cases e717
                    replace p717 := eq_true p717
                    replace q717 := eq_true q717
                    obtain ⟨Ao68, co68, eo68⟩ := Kd.R_slice HO_6.out
                    subst eo68
                    have p718 : 0 ≤ (x12_3 : Int) := odt
                    have q718 : x12_3 < (t701.length : Int) := odt
                    obtain ⟨ad718, e718, hx718_0⟩ := Kd.at_int (Kd.R_reads' HO_6.out).2.2 x12_3 p718 q718
                    cases e718
                    replace p718 := eq_true p718
                    replace q718 := eq_true q718
                    obtain ⟨Ao69, co69, eo69⟩ := Kd.R_slice HO_11.out
                    subst eo69
                    have p719 : 0 ≤ (x12_3 : Int) := odt
                    have q719 : x12_3 < (t714.length : Int) := odt
                    obtain ⟨ad719, e719, hx719_0⟩ := Kd.at_int (Kd.R_reads' HO_11.out).2.2 x12_3 p719 q719
                    cases e719
                    replace p719 := eq_true p719
                    replace q719 := eq_true q719
                    have p720 : 0 ≤ (x12_3 : Int) := odt
                    have q720 : x12_3 < (t701.length : Int) := odt
                    obtain ⟨ad720, e720, hx720_0⟩ := Kd.at_int (Kd.R_reads' HO_6.out).2.2 x12_3 p720 q720
                    obtain rfl : ad718 = ad720 := (by injection e720)
                    replace p720 := eq_true p720
                    replace q720 := eq_true q720
                    have p721 : 0 ≤ (x12_3 : Int) := odt
                    have q721 : x12_3 < (t711.length : Int) := odt
                    obtain ⟨ad721, e721, hx721_0⟩ := Kd.at_int (Kd.R_reads' HO_10.out).2.2 x12_3 p721 q721
                    obtain rfl : ad717 = ad721 := (by injection e721)
                    replace p721 := eq_true p721
                    replace q721 := eq_true q721
                    have p722 : 0 ≤ (x12_3 : Int) := odt
                    have q722 : x12_3 < (t701.length : Int) := odt
                    obtain ⟨ad722, e722, hx722_0⟩ := Kd.at_int (Kd.R_reads' HO_6.out).2.2 x12_3 p722 q722
                    obtain rfl : ad718 = ad722 := (by injection e722)
                    replace p722 := eq_true p722
                    replace q722 := eq_true q722
                    go_wp2
                    repeat (go_quiet (fail); try go_wp2)
                    go_ret
                    exact ⟨fe, bel⟩
                  ·
                   rw [if_neg c46] at H
                   have c46b0 : (x9_1 == 0) = false := beq_eq_false_iff_ne.mpr c46
                   have c46b1 : (x9_1 != 0) = true := bne_iff_ne.mpr c46
                   by_cases c70 : x12_3 > 0
                   ·
                    rw [if_pos c70] at H
                    have c70b0 : decide (0 < x12_3) = true := decide_eq_true c70
                    clear c70
                    obtain ⟨ji71, hji71⟩ : ∃ j_ : Int, (wrap64 (x12_3 - 1)) = j_ := ⟨_, rfl⟩
                    replace H : (if 0 ≤ (ji71) then (if (ji71) < (t711.length : Int) then (if (rd t711 x12_3) ≤ (rd t711 (ji71)) then (some false) else (if (ji71) < (t714.length : Int) then (if (rd t714 x12_3) ≤ (rd t714 (ji71)) then (some false) else (laws_FnHiding.l1 k3 t694 (wrap64 (1 + (Int.tmod (rd t697 0) 8))) t701 t704 t707 x9_1 t711 t714 (wrap64 (x12_3 + 1)))) else (none))) else (none)) else (none)) = some r := by first | (rw [hji71] at H; exact H) | (simp only [hji71] at H ⊢; exact H)
                    have hji71w : (IntKind.i64.wrap (x12_3 - 1)) = ji71 := (i64_w _).trans hji71
                    by_cases c72 : 0 ≤ (ji71)
                    ·
                     rw [if_pos c72] at H
                     have c72b0 : decide (0 ≤ (ji71)) = true := decide_eq_true c72
                     clear c72
                     by_cases c73 : (ji71) < (t711.length : Int)
                     ·
                      rw [if_pos c73] at H
                      have c73b0 : decide ((ji71) < (t711.length : Int)) = true := decide_eq_true c73
                      clear c73
                      by_cases c74 : (rd t711 x12_3) ≤ (rd t711 (ji71))
                      ·
                       rw [if_pos c74] at H
                       have c74b0 : decide ((rd t711 x12_3) ≤ (rd t711 (ji71))) = true := decide_eq_true c74
                       clear c74
                       obtain rfl := Option.some.inj H
                       obtain ⟨Ao75, co75, eo75⟩ := Kd.R_slice HO_10.out
                       subst eo75
                       have p717 : 0 ≤ (x12_3 : Int) := odt
                       have q717 : x12_3 < (t711.length : Int) := odt
                       obtain ⟨ad717, e717, hx717_0⟩ := Kd.at_int (Kd.R_reads' HO_10.out).2.2 x12_3 p717 q717
                       cases e717
                       replace p717 := eq_true p717
                       replace q717 := eq_true q717
                       obtain ⟨Ao76, co76, eo76⟩ := Kd.R_slice HO_6.out
                       subst eo76
                       have p718 : 0 ≤ (x12_3 : Int) := odt
                       have q718 : x12_3 < (t701.length : Int) := odt
                       obtain ⟨ad718, e718, hx718_0⟩ := Kd.at_int (Kd.R_reads' HO_6.out).2.2 x12_3 p718 q718
                       cases e718
                       replace p718 := eq_true p718
                       replace q718 := eq_true q718
                       obtain ⟨Ao77, co77, eo77⟩ := Kd.R_slice HO_11.out
                       subst eo77
                       have p719 : 0 ≤ (x12_3 : Int) := odt
                       have q719 : x12_3 < (t714.length : Int) := odt
                       obtain ⟨ad719, e719, hx719_0⟩ := Kd.at_int (Kd.R_reads' HO_11.out).2.2 x12_3 p719 q719
                       cases e719
                       replace p719 := eq_true p719
                       replace q719 := eq_true q719
                       have p720 : 0 ≤ (x12_3 : Int) := odt
                       have q720 : x12_3 < (t701.length : Int) := odt
                       obtain ⟨ad720, e720, hx720_0⟩ := Kd.at_int (Kd.R_reads' HO_6.out).2.2 x12_3 p720 q720
                       obtain rfl : ad718 = ad720 := (by injection e720)
                       replace p720 := eq_true p720
                       replace q720 := eq_true q720
                       have p727 : 0 ≤ (x12_3 : Int) := odt
                       have q727 : x12_3 < (t711.length : Int) := odt
                       obtain ⟨ad727, e727, hx727_0⟩ := Kd.at_int (Kd.R_reads' HO_10.out).2.2 x12_3 p727 q727
                       obtain rfl : ad717 = ad727 := (by injection e727)
                       replace p727 := eq_true p727
                       replace q727 := eq_true q727
                       have p728 : 0 ≤ ((ji71) : Int) := odt
                       have q728 : (ji71) < (t711.length : Int) := odt
                       obtain ⟨ad728, e728, hx728_0⟩ := Kd.at_int (Kd.R_reads' HO_10.out).2.2 (ji71) p728 q728
                       obtain rfl : ad717 = ad728 := (by injection e728)
                       replace p728 := eq_true p728
                       replace q728 := eq_true q728
                       go_wp2
                       repeat (go_quiet (fail); try go_wp2)
                       go_ret
                       exact ⟨by first | rfl | (simp [errW_none, errW_some] <;> rfl) | (simp only [← hji71]; first | rfl | (simp [errW_none, errW_some] <;> rfl)) | (simp [*, errW_none, errW_some] <;> rfl), bel⟩
                      ·
                       rw [if_neg c74] at H
                       have c74b0 : decide ((rd t711 x12_3) ≤ (rd t711 (ji71))) = false := decide_eq_false c74
                       clear c74
                       by_cases c78 : (ji71) < (t714.length : Int)
                       ·
                        rw [if_pos c78] at H
                        have c78b0 : decide ((ji71) < (t714.length : Int)) = true := decide_eq_true c78
                        clear c78
                        by_cases c79 : (rd t714 x12_3) ≤ (rd t714 (ji71))
                        ·
                         rw [if_pos c79] at H
                         have c79b0 : decide ((rd t714 x12_3) ≤ (rd t714 (ji71))) = true := decide_eq_true c79
                         clear c79
                         obtain rfl := Option.some.inj H
                         obtain ⟨Ao80, co80, eo80⟩ := Kd.R_slice HO_10.out
                         subst eo80
                         have p717 : 0 ≤ (x12_3 : Int) := odt
                         have q717 : x12_3 < (t711.length : Int) := odt
                         obtain ⟨ad717, e717, hx717_0⟩ := Kd.at_int (Kd.R_reads' HO_10.out).2.2 x12_3 p717 q717
                         cases e717
                         replace p717 := eq_true p717
                         replace q717 := eq_true q717
                         obtain ⟨Ao81, co81, eo81⟩ := Kd.R_slice HO_6.out
                         subst eo81
                         have p718 : 0 ≤ (x12_3 : Int) := odt
                         have q718 : x12_3 < (t701.length : Int) := odt
                         obtain ⟨ad718, e718, hx718_0⟩ := Kd.at_int (Kd.R_reads' HO_6.out).2.2 x12_3 p718 q718
                         cases e718
                         replace p718 := eq_true p718
                         replace q718 := eq_true q718
                         obtain ⟨Ao82, co82, eo82⟩ := Kd.R_slice HO_11.out
                         subst eo82
                         have p719 : 0 ≤ (x12_3 : Int) := odt
                         have q719 : x12_3 < (t714.length : Int) := odt
                         obtain ⟨ad719, e719, hx719_0⟩ := Kd.at_int (Kd.R_reads' HO_11.out).2.2 x12_3 p719 q719
                         cases e719
                         replace p719 := eq_true p719
                         replace q719 := eq_true q719
                         have p720 : 0 ≤ (x12_3 : Int) := odt
                         have q720 : x12_3 < (t701.length : Int) := odt
                         obtain ⟨ad720, e720, hx720_0⟩ := Kd.at_int (Kd.R_reads' HO_6.out).2.2 x12_3 p720 q720
                         obtain rfl : ad718 = ad720 := (by injection e720)
                         replace p720 := eq_true p720
                         replace q720 := eq_true q720
                         have p727 : 0 ≤ (x12_3 : Int) := odt
                         have q727 : x12_3 < (t711.length : Int) := odt
                         obtain ⟨ad727, e727, hx727_0⟩ := Kd.at_int (Kd.R_reads' HO_10.out).2.2 x12_3 p727 q727
                         obtain rfl : ad717 = ad727 := (by injection e727)
                         replace p727 := eq_true p727
                         replace q727 := eq_true q727
                         have p728 : 0 ≤ ((ji71) : Int) := odt
                         have q728 : (ji71) < (t711.length : Int) := odt
                         obtain ⟨ad728, e728, hx728_0⟩ := Kd.at_int (Kd.R_reads' HO_10.out).2.2 (ji71) p728 q728
                         obtain rfl : ad717 = ad728 := (by injection e728)
                         replace p728 := eq_true p728
                         replace q728 := eq_true q728
                         have p729 : 0 ≤ (x12_3 : Int) := odt
                         have q729 : x12_3 < (t714.length : Int) := odt
                         obtain ⟨ad729, e729, hx729_0⟩ := Kd.at_int (Kd.R_reads' HO_11.out).2.2 x12_3 p729 q729
                         obtain rfl : ad719 = ad729 := (by injection e729)
                         replace p729 := eq_true p729
                         replace q729 := eq_true q729
                         have p730 : 0 ≤ ((ji71) : Int) := odt
                         have q730 : (ji71) < (t714.length : Int) := odt
                         obtain ⟨ad730, e730, hx730_0⟩ := Kd.at_int (Kd.R_reads' HO_11.out).2.2 (ji71) p730 q730
                         obtain rfl : ad719 = ad730 := (by injection e730)
                         replace p730 := eq_true p730
                         replace q730 := eq_true q730
                         go_wp2
                         repeat (go_quiet (fail); try go_wp2)
                         go_ret
                         exact ⟨by first | rfl | (simp [errW_none, errW_some] <;> rfl) | (simp only [← hji71]; first | rfl | (simp [errW_none, errW_some] <;> rfl)) | (simp [*, errW_none, errW_some] <;> rfl), bel⟩
                        ·
                         rw [if_neg c79] at H
                         have c79b0 : decide ((rd t714 x12_3) ≤ (rd t714 (ji71))) = false := decide_eq_false c79
                         clear c79
                         have H' := Aside0.mk H
                         clear H
                         obtain ⟨Ao83, co83, eo83⟩ := Kd.R_slice HO_10.out
                         subst eo83
                         have p717 : 0 ≤ (x12_3 : Int) := odt
                         have q717 : x12_3 < (t711.length : Int) := odt
                         obtain ⟨ad717, e717, hx717_0⟩ := Kd.at_int (Kd.R_reads' HO_10.out).2.2 x12_3 p717 q717
                         cases e717
                         replace p717 := eq_true p717
                         replace q717 := eq_true q717
                         obtain ⟨Ao84, co84, eo84⟩ := Kd.R_slice HO_6.out
                         subst eo84
                         have p718 : 0 ≤ (x12_3 : Int) := odt
                         have q718 : x12_3 < (t701.length : Int) := odt
                         obtain ⟨ad718, e718, hx718_0⟩ := Kd.at_int (Kd.R_reads' HO_6.out).2.2 x12_3 p718 q718
                         cases e718
                         replace p718 := eq_true p718
                         replace q718 := eq_true q718
                         obtain ⟨Ao85, co85, eo85⟩ := Kd.R_slice HO_11.out
                         subst eo85
                         have p719 : 0 ≤ (x12_3 : Int) := odt
                         have q719 : x12_3 < (t714.length : Int) := odt
                         obtain ⟨ad719, e719, hx719_0⟩ := Kd.at_int (Kd.R_reads' HO_11.out).2.2 x12_3 p719 q719
                         cases e719
                         replace p719 := eq_true p719
                         replace q719 := eq_true q719
                         have p720 : 0 ≤ (x12_3 : Int) := odt
                         have q720 : x12_3 < (t701.length : Int) := odt
                         obtain ⟨ad720, e720, hx720_0⟩ := Kd.at_int (Kd.R_reads' HO_6.out).2.2 x12_3 p720 q720
                         obtain rfl : ad718 = ad720 := (by injection e720)
                         replace p720 := eq_true p720
                         replace q720 := eq_true q720
                         have p727 : 0 ≤ (x12_3 : Int) := odt
                         have q727 : x12_3 < (t711.length : Int) := odt
                         obtain ⟨ad727, e727, hx727_0⟩ := Kd.at_int (Kd.R_reads' HO_10.out).2.2 x12_3 p727 q727
                         obtain rfl : ad717 = ad727 := (by injection e727)
                         replace p727 := eq_true p727
                         replace q727 := eq_true q727
                         have p728 : 0 ≤ ((ji71) : Int) := odt
                         have q728 : (ji71) < (t711.length : Int) := odt
                         obtain ⟨ad728, e728, hx728_0⟩ := Kd.at_int (Kd.R_reads' HO_10.out).2.2 (ji71) p728 q728
                         obtain rfl : ad717 = ad728 := (by injection e728)
                         replace p728 := eq_true p728
                         replace q728 := eq_true q728
                         have p729 : 0 ≤ (x12_3 : Int) := odt
                         have q729 : x12_3 < (t714.length : Int) := odt
                         obtain ⟨ad729, e729, hx729_0⟩ := Kd.at_int (Kd.R_reads' HO_11.out).2.2 x12_3 p729 q729
                         obtain rfl : ad719 = ad729 := (by injection e729)
                         replace p729 := eq_true p729
                         replace q729 := eq_true q729
                         have p730 : 0 ≤ ((ji71) : Int) := odt
                         have q730 : (ji71) < (t714.length : Int) := odt
                         obtain ⟨ad730, e730, hx730_0⟩ := Kd.at_int (Kd.R_reads' HO_11.out).2.2 (ji71) p730 q730
                         obtain rfl : ad719 = ad730 := (by injection e730)
                         replace p730 := eq_true p730
                         replace q730 := eq_true q730
                         go_wp2
                         repeat (go_quiet (fail); try go_wp2)
                         go_roundg k3
                         case measure => have := HK1.out; have := HJ19.out; have := HK3.out; omega
                         case rel => exact ⟨(wrap64 (x12_3 + 1)), fr, H', ⟨by have := HK1.out; have := HJ19.out; have := HK3.out; omega⟩, ⟨by (with_reducible repeat (first | apply Kd.R_alloc | apply Kd.R_drewN | apply Kd.R_drew)); exact HO_3.out⟩, ⟨by (with_reducible repeat (first | apply Kd.R_alloc | apply Kd.R_drewN | apply Kd.R_drew)); exact HO_6.out⟩, ⟨by (with_reducible repeat (first | apply Kd.R_alloc | apply Kd.R_drewN | apply Kd.R_drew)); exact HO_7.out⟩, ⟨by (with_reducible repeat (first | apply Kd.R_alloc | apply Kd.R_drewN | apply Kd.R_drew)); exact HO_8.out⟩, ⟨by (with_reducible repeat (first | apply Kd.R_alloc | apply Kd.R_drewN | apply Kd.R_drew)); exact HO_10.out⟩, ⟨by (with_reducible repeat (first | apply Kd.R_alloc | apply Kd.R_drewN | apply Kd.R_drew)); exact HO_11.out⟩, ⟨bel⟩⟩
                       ·
                        rw [if_neg c78] at H
                        exact absurd H (by simp)
                     ·
                      rw [if_neg c73] at H
                      exact absurd H (by simp)
                    ·
                     rw [if_neg c72] at H
                     exact absurd H (by simp)
                   ·
                    rw [if_neg c70] at H
                    have c70b0 : decide (0 < x12_3) = false := decide_eq_false c70
                    clear c70
                    have H' := Aside0.mk H
                    clear H
                    obtain ⟨Ao86, co86, eo86⟩ := Kd.R_slice HO_10.out
                    subst eo86
                    have p717 : 0 ≤ (x12_3 : Int) := odt
                    have q717 : x12_3 < (t711.length : Int) := odt
                    obtain ⟨ad717, e717, hx717_0⟩ := Kd.at_int (Kd.R_reads' HO_10.out).2.2 x12_3 p717 q717
                    cases e717
                    replace p717 := eq_true p717
                    replace q717 := eq_true q717
                    obtain ⟨Ao87, co87, eo87⟩ := Kd.R_slice HO_6.out
                    subst eo87
                    have p718 : 0 ≤ (x12_3 : Int) := odt
                    have q718 : x12_3 < (t701.length : Int) := odt
                    obtain ⟨ad718, e718, hx718_0⟩ := Kd.at_int (Kd.R_reads' HO_6.out).2.2 x12_3 p718 q718
                    cases e718
                    replace p718 := eq_true p718
                    replace q718 := eq_true q718
                    obtain ⟨Ao88, co88, eo88⟩ := Kd.R_slice HO_11.out
                    subst eo88
                    have p719 : 0 ≤ (x12_3 : Int) := odt
                    have q719 : x12_3 < (t714.length : Int) := odt
                    obtain ⟨ad719, e719, hx719_0⟩ := Kd.at_int (Kd.R_reads' HO_11.out).2.2 x12_3 p719 q719
                    cases e719
                    replace p719 := eq_true p719
                    replace q719 := eq_true q719
                    have p720 : 0 ≤ (x12_3 : Int) := odt
                    have q720 : x12_3 < (t701.length : Int) := odt
                    obtain ⟨ad720, e720, hx720_0⟩ := Kd.at_int (Kd.R_reads' HO_6.out).2.2 x12_3 p720 q720
                    obtain rfl : ad718 = ad720 := (by injection e720)
                    replace p720 := eq_true p720
                    replace q720 := eq_true q720
                    go_wp2
                    repeat (go_quiet (fail); try go_wp2)
                    go_roundg k3
                    case measure => have := HK1.out; have := HJ19.out; have := HK3.out; omega
                    case rel => exact ⟨(wrap64 (x12_3 + 1)), fr, H', ⟨by have := HK1.out; have := HJ19.out; have := HK3.out; omega⟩, ⟨by (with_reducible repeat (first | apply Kd.R_alloc | apply Kd.R_drewN | apply Kd.R_drew)); exact HO_3.out⟩, ⟨by (with_reducible repeat (first | apply Kd.R_alloc | apply Kd.R_drewN | apply Kd.R_drew)); exact HO_6.out⟩, ⟨by (with_reducible repeat (first | apply Kd.R_alloc | apply Kd.R_drewN | apply Kd.R_drew)); exact HO_7.out⟩, ⟨by (with_reducible repeat (first | apply Kd.R_alloc | apply Kd.R_drewN | apply Kd.R_drew)); exact HO_8.out⟩, ⟨by (with_reducible repeat (first | apply Kd.R_alloc | apply Kd.R_drewN | apply Kd.R_drew)); exact HO_10.out⟩, ⟨by (with_reducible repeat (first | apply Kd.R_alloc | apply Kd.R_drewN | apply Kd.R_drew)); exact HO_11.out⟩, ⟨bel⟩⟩
                ·
                 rw [if_neg c41] at H
                 exact absurd H (by simp)
              ·
               rw [if_neg c37] at H
               exact absurd H (by simp)
             ·
              rw [if_neg c36] at H
              exact absurd H (by simp)
            ·
             rw [if_neg c35] at H
             exact absurd H (by simp)
           ·
            rw [if_neg c34] at H
            have c34b0 : decide (x12_3 < (t694.length : Int)) = false := decide_eq_false c34
            clear c34
            have H' := Aside0.mk H
            clear H
            go_wp2
            repeat (go_quiet (fail); try go_wp2)
            go_roundg k3
            case measure => have := HK1.out; have := HJ19.out; have := HK3.out; omega
            case rel => exact ⟨(wrap64 (x9_1 + 1)), fr, H', ⟨by have := HK1.out; have := HJ19.out; have := HK3.out; omega⟩, ⟨by (with_reducible repeat (first | apply Kd.R_alloc | apply Kd.R_drewN | apply Kd.R_drew)); exact HO_3.out⟩, ⟨by (with_reducible repeat (first | apply Kd.R_alloc | apply Kd.R_drewN | apply Kd.R_drew)); exact Kd.R_mono HO_6.out (fun _ hk => trivial)⟩, ⟨by (with_reducible repeat (first | apply Kd.R_alloc | apply Kd.R_drewN | apply Kd.R_drew)); exact HO_7.out⟩, ⟨by (with_reducible repeat (first | apply Kd.R_alloc | apply Kd.R_drewN | apply Kd.R_drew)); exact HO_8.out⟩, ⟨bel⟩⟩
     ·
      rw [if_neg c17] at H
      have c17b0 : decide (x9_1 < (wrap64 (1 + (Int.tmod (rd t697 0) 8)))) = false := decide_eq_false c17
      clear c17
      replace H := Option.bind_eq_some_iff.mp H
      obtain ⟨t710, A890, H⟩ := H
      replace H : (some (t710 != 0)) = some r := H
      have A89 := Aside0.mk A890
      clear A890
      obtain rfl := Option.some.inj H
      go_wp2_with (first | (go_at_call 42; (with_reducible refine (impl_ResidentFor.calls k1 _ _ t694 t710 _ ?side1 ?side2 A89.out).mono ?_); (case side1 => repeat (first | exact (Kd.R_reads' HO_3.out).2.2 | (with_reducible refine Kd.C_alloc ?_ _) | (with_reducible refine Kd.C_drewN ?_ _) | (with_reducible refine Kd.C_drew ?_))); (case side2 => exact (Kd.R_reads' HO_3.out).2.1); rintro e w90 ⟨rfl, hb⟩; have n0_ := Aside0.mk (Kd.R_below (by (with_reducible repeat (first | apply Kd.R_alloc | apply Kd.R_drewN | apply Kd.R_drew)); exact HO_3.out) hb); have n1_ := Aside0.mk (Kd.R_below (by (with_reducible repeat (first | apply Kd.R_alloc | apply Kd.R_drewN | apply Kd.R_drew)); exact HO_6.out) hb); have n2_ := Aside0.mk (Kd.R_below (by (with_reducible repeat (first | apply Kd.R_alloc | apply Kd.R_drewN | apply Kd.R_drew)); exact HO_7.out) hb); have n3_ := Aside0.mk (Kd.R_below (by (with_reducible repeat (first | apply Kd.R_alloc | apply Kd.R_drewN | apply Kd.R_drew)); exact HO_8.out) hb); have n4_ := Aside0.mk (below_step bel hb); clear HO_3; clear HO_6; clear HO_7; clear HO_8; clear HB; have HO_3 := n0_; have HO_6 := n1_; have HO_7 := n2_; have HO_8 := n3_; have HB := n4_; clear n0_ n1_ n2_ n3_ n4_; (try clear hb); (try clear hb2); (try clear hk); (try clear hi)))
      repeat (go_quiet (first | (go_at_call 42; (with_reducible refine (impl_ResidentFor.calls k1 _ _ t694 t710 _ ?side1 ?side2 A89.out).mono ?_); (case side1 => repeat (first | exact (Kd.R_reads' HO_3.out).2.2 | (with_reducible refine Kd.C_alloc ?_ _) | (with_reducible refine Kd.C_drewN ?_ _) | (with_reducible refine Kd.C_drew ?_))); (case side2 => exact (Kd.R_reads' HO_3.out).2.1); rintro e w90 ⟨rfl, hb⟩; have n0_ := Aside0.mk (Kd.R_below (by (with_reducible repeat (first | apply Kd.R_alloc | apply Kd.R_drewN | apply Kd.R_drew)); exact HO_3.out) hb); have n1_ := Aside0.mk (Kd.R_below (by (with_reducible repeat (first | apply Kd.R_alloc | apply Kd.R_drewN | apply Kd.R_drew)); exact HO_6.out) hb); have n2_ := Aside0.mk (Kd.R_below (by (with_reducible repeat (first | apply Kd.R_alloc | apply Kd.R_drewN | apply Kd.R_drew)); exact HO_7.out) hb); have n3_ := Aside0.mk (Kd.R_below (by (with_reducible repeat (first | apply Kd.R_alloc | apply Kd.R_drewN | apply Kd.R_drew)); exact HO_8.out) hb); have n4_ := Aside0.mk (below_step bel hb); clear HO_3; clear HO_6; clear HO_7; clear HO_8; clear HB; have HO_3 := n0_; have HO_6 := n1_; have HO_7 := n2_; have HO_8 := n3_; have HB := n4_; clear n0_ n1_ n2_ n3_ n4_; (try clear hb); (try clear hb2); (try clear hk); (try clear hi))); try go_wp2_with (first | (go_at_call 42; (with_reducible refine (impl_ResidentFor.calls k1 _ _ t694 t710 _ ?side1 ?side2 A89.out).mono ?_); (case side1 => repeat (first | exact (Kd.R_reads' HO_3.out).2.2 | (with_reducible refine Kd.C_alloc ?_ _) | (with_reducible refine Kd.C_drewN ?_ _) | (with_reducible refine Kd.C_drew ?_))); (case side2 => exact (Kd.R_reads' HO_3.out).2.1); rintro e w90 ⟨rfl, hb⟩; have n0_ := Aside0.mk (Kd.R_below (by (with_reducible repeat (first | apply Kd.R_alloc | apply Kd.R_drewN | apply Kd.R_drew)); exact HO_3.out) hb); have n1_ := Aside0.mk (Kd.R_below (by (with_reducible repeat (first | apply Kd.R_alloc | apply Kd.R_drewN | apply Kd.R_drew)); exact HO_6.out) hb); have n2_ := Aside0.mk (Kd.R_below (by (with_reducible repeat (first | apply Kd.R_alloc | apply Kd.R_drewN | apply Kd.R_drew)); exact HO_7.out) hb); have n3_ := Aside0.mk (Kd.R_below (by (with_reducible repeat (first | apply Kd.R_alloc | apply Kd.R_drewN | apply Kd.R_drew)); exact HO_8.out) hb); have n4_ := Aside0.mk (below_step bel hb); clear HO_3; clear HO_6; clear HO_7; clear HO_8; clear HB; have HO_3 := n0_; have HO_6 := n1_; have HO_7 := n2_; have HO_8 := n3_; have HB := n4_; clear n0_ n1_ n2_ n3_ n4_; (try clear hb); (try clear hb2); (try clear hk); (try clear hi))))
      go_ret
      exact ⟨fe, bel⟩
  ·
   rw [if_neg c6] at H
   exact absurd H (by simp)

/-! ### spec_l36Can: function 108 -/
def spec_l36Can.l0 : Nat → List Int → Int → List Int → Int → Option (Bool)
 | 0, _, _, _, _ => none
 | k + 1, x1, x2, x7, x8 => if x8 < (x7.length : Int) then (if 0 ≤ x8 then (if 0 ≤ (rd x7 x8) then (if (rd x7 x8) < (x1.length : Int) then (if (rd x1 (rd x7 x8)) > x2 then (some false) else (spec_l36Can.l0 k x1 x2 x7 (wrap64 (x8 + 1)))) else (none)) else (none)) else (none)) else (some true)
def spec_l36Can.f (k : Nat) (a0_0 : Int) (a0_1 : Int) (a0_2 : Int) (a0_3 : Int) (l1 : List Int) (a2 : Int) : Option (Bool) := (spec_l35Uses.f k a0_0 a0_1 a0_2 a0_3).bind fun t453 => (spec_l36Can.l0 k l1 a2 t453 0)
end Go.Proofs.Ytopckcppmpmcnaa.Q
