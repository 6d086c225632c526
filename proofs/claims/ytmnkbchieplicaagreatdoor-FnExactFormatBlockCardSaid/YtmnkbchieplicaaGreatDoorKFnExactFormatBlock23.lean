/- Contracts of functions of the program and of the laws, written by program out of the translation; conditions: as each theorem says. -/
import Derived.Test.YtmnkbchieplicaaGreatDoorKFnExactFormatBlock22
namespace Go.Proofs.YtmnkbchieplicaaGreatDoor.Q
open Go.RowKit Go.Proofs.YtmnkbchieplicaaGreatDoorW.PrintWords Go.Proofs.YtmnkbchieplicaaGreatDoorW.PrintLast Go.Proofs.YtmnkbchieplicaaGreatDoorW.PrintMore
attribute [local go_sem] max2_int min2_int max_two min_two max_three min_three max_four min_four   -- for this text's walks alone
set_option linter.unusedVariables false
set_option linter.unusedSimpArgs false

/-! ### impl_IsStuck: function 19 -/
mutual
def impl_IsStuck.j0 : Nat → Bool → List (S95) → List (S59) → List Int → Int → Int → Option (Bool)
 | 0, _, _, _, _, _, _ => none
 | k + 1, x10, x12000, x12001, x12002, x12003, x12004 => if x10 = true then (some false) else (impl_IsStuck.l0 k (x12001.length : Int) 0 x12000 x12001 x12002 x12003 x12004)
def impl_IsStuck.l0 : Nat → Int → Int → List (S95) → List (S59) → List Int → Int → Int → Option (Bool)
 | 0, _, _, _, _, _, _, _ => none
 | k + 1, x13, x14, x12000, x12001, x12002, x12003, x12004 => if x14 < x13 then ((impl_Block_canStep.f k x12000 x12001 x12002 x12003 x12004 x14).bind fun t14 => (if t14 = true then (some false) else (impl_IsStuck.l0 k x13 (wrap64 (x14 + 1)) x12000 x12001 x12002 x12003 x12004))) else (some true)
end
def impl_IsStuck.f (k : Nat) (l0_0 : List (S95)) (l0_1 : List (S59)) (l0_2 : List Int) (a0_3 : Int) (a0_4 : Int) : Option (Bool) := (impl_BlockOk.f k l0_0 l0_1 l0_2 a0_3 a0_4).bind fun t12 => (if t12 = true then ((impl_Block_ended.f k l0_0 l0_1 l0_2 a0_3 a0_4).bind fun t13 => (impl_IsStuck.j0 k t13 l0_0 l0_1 l0_2 a0_3 a0_4)) else (impl_IsStuck.j0 k true l0_0 l0_1 l0_2 a0_3 a0_4))
set_option maxHeartbeats 8000000 in
set_option maxRecDepth 100000 in
theorem impl_IsStuck.calls (k : Nat) (A0_0 : Option Addr) (c0_0 : Nat) (l0_0 : List (S95)) (A0_1 : Option Addr) (c0_1 : Nat) (l0_1 : List (S59)) (A0_2 : Option Addr) (c0_2 : Nat) (l0_2 : List Int) (a0_3 : Int) (a0_4 : Int) (r : Bool) (w : World) (hr0_0 : Kd.C k95 w A0_0 l0_0.length l0_0) (hc0_0 : l0_0.length ≤ c0_0) (hr0_1 : Kd.C k59 w A0_1 l0_1.length l0_1) (hc0_1 : l0_1.length ≤ c0_1) (hr0_2 : Kd.C (Kd.int .i64) w A0_2 l0_2.length l0_2) (hc0_2 : l0_2.length ≤ c0_2) (h : impl_IsStuck.f k l0_0 l0_1 l0_2 a0_3 a0_4 = some r) :
  Calls Tryz.prog 19 #[.agg #[.slice A0_0 l0_0.length c0_0, .slice A0_1 l0_1.length c0_1, .slice A0_2 l0_2.length c0_2, .int .i64 a0_3, .int .i64 a0_4]] w fun e w' => e = .returned (.bool r) ∧ Below w.heap.size w w' := by
 have hu33 := Tryz.underlying33; have HR0_0 := Aside0.mk hr0_0; have HC0_0 := Aside0.mk hc0_0; clear hr0_0 hc0_0; have HR0_1 := Aside0.mk hr0_1; have HC0_1 := Aside0.mk hc0_1; clear hr0_1 hc0_1; have HR0_2 := Aside0.mk hr0_2; have HC0_2 := Aside0.mk hc0_2; clear hr0_2 hc0_2; have HB := Aside0.mk (Below.refl w.heap.size w)
 have H : ((impl_BlockOk.f k l0_0 l0_1 l0_2 a0_3 a0_4).bind fun t12 => (if t12 = true then ((impl_Block_ended.f k l0_0 l0_1 l0_2 a0_3 a0_4).bind fun t13 => (impl_IsStuck.j0 k t13 l0_0 l0_1 l0_2 a0_3 a0_4)) else (impl_IsStuck.j0 k true l0_0 l0_1 l0_2 a0_3 a0_4))) = some r := h
 clear h; have HC2 := Aside0.mk H; clear H
 go_enter Tryz.func19, Tryz.ntmps19
 go_upto_region 1 with (first | (refine bxe 1 #[.slice A0_0 l0_0.length c0_0, .slice A0_1 l0_1.length c0_1, .slice A0_2 l0_2.length c0_2, .int .i64 a0_3, .int .i64 a0_4] 33 ?_; intro gb11 hg w3 hbox hb; have BK11 := Aside0.mk (hbox); have GW11 := Aside0.mk (gwe hg : w.heap.size ≤ _); have GE11 := GW11; replace HB := hbs hb; clear hb hbox hg))
 (try simp only [Act.put, List.setIfInBounds_toArray, List.set_cons_zero, List.set_cons_succ])
 go_cut [10] (fun v10 wc => ∃ (kq : Nat) (x10_1 : Bool), v10 = .bool x10_1 ∧ Aside0 (impl_IsStuck.j0 kq x10_1 l0_0 l0_1 l0_2 a0_3 a0_4 = some r) ∧ Aside0 (kq ≤ k) ∧ Aside0 (wc.heap[gb11]? = some (.cells #[(.slice A0_0 l0_0.length c0_0), (.slice A0_1 l0_1.length c0_1), (.slice A0_2 l0_2.length c0_2), .int .i64 a0_3, .int .i64 a0_4] 33 (0, 0))) ∧ Aside0 (Below w.heap.size w wc))
 case first =>
  have H := HC2.out; clear HC2; obtain ⟨t12, A4, H⟩ := bnd H; (try dsimp only at H)
  by_cases c5 : t12 = true
  ·subst c5; rw [if_pos rfl] at H; obtain ⟨t13, A6, H⟩ := bnd H; (try dsimp only at H)
   have H' := Aside0.mk H
   clear H; obtain ⟨_, _, _, _, _, _, _, _, _, _⟩ := box5 BK11
   go_wp2_with (first | (refine gL 35 (some 5) Tryz.func35 #[.agg #[.slice A0_0 l0_0.length c0_0, .slice A0_1 l0_1.length c0_1, .slice A0_2 l0_2.length c0_2, .int .i64 a0_3, .int .i64 a0_4]] ?_; refine (impl_BlockOk.calls k _ _ l0_0 _ _ l0_1 _ _ l0_2 a0_3 a0_4 true _ (cb HR0_0) HC0_0.out (cb HR0_1) HC0_1.out (cb HR0_2) HC0_2.out A4.out).mono ?_; rintro e w8 ⟨rfl, hb⟩; refine ⟨_, rfl, ?_⟩; replace BK11 := kb BK11 hb; replace HB := hbs hb; clear hb; obtain ⟨_, _, _, _, _, _, _, _, _, _⟩ := box5 BK11) | (go_at_call 36; refine (impl_Block_ended.calls k _ _ l0_0 _ _ l0_1 _ _ l0_2 a0_3 a0_4 t13 _ (cb HR0_0) HC0_0.out (cb HR0_1) HC0_1.out (cb HR0_2) HC0_2.out A6.out).mono ?_; rintro e w10 ⟨rfl, hb⟩; replace BK11 := kb BK11 hb; replace HB := hbs hb; clear hb))
   go_meet
   case rel => exact ⟨_, (t13), rfx, H', ⟨omx⟩, ⟨bk⟩, ⟨bels⟩⟩
  ·replace c5 := Bool.eq_false_iff.mpr c5; subst c5; rw [if_neg (by decide)] at H
   have H' := Aside0.mk H
   clear H; obtain ⟨_, _, _, _, _, _, _, _, _, _⟩ := box5 BK11
   go_wp2_with (first | (refine gL 35 (some 5) Tryz.func35 #[.agg #[.slice A0_0 l0_0.length c0_0, .slice A0_1 l0_1.length c0_1, .slice A0_2 l0_2.length c0_2, .int .i64 a0_3, .int .i64 a0_4]] ?_; refine (impl_BlockOk.calls k _ _ l0_0 _ _ l0_1 _ _ l0_2 a0_3 a0_4 false _ (cb HR0_0) HC0_0.out (cb HR0_1) HC0_1.out (cb HR0_2) HC0_2.out A4.out).mono ?_; rintro e w12 ⟨rfl, hb⟩; refine ⟨_, rfl, ?_⟩; replace BK11 := kb BK11 hb; replace HB := hbs hb; clear hb))
   go_meet
   case rel => exact ⟨_, (true), rfx, H', ⟨omx⟩, ⟨bk⟩, ⟨bels⟩⟩
 case rest =>
  clear HC2
  try clear c1
  try clear p2
  try clear c3
  try clear c5
  obtain ⟨kq, x10_1, rfl, HA, HJ1, BK11, HB⟩ := hcut
  cases kq with
  | zero => exact absurd HA.out (by simp [impl_IsStuck.j0])
  | succ kj1 =>
   have H := HA.out; clear HA
   simp only [impl_IsStuck.j0] at H
   by_cases c13 : x10_1 = true
   ·subst c13; rw [if_pos rfl] at H; obtain rfl := oI H
    go_wp2
    go_ret
    exact ⟨rfe, bels⟩
   ·replace c13 := Bool.eq_false_iff.mpr c13; subst c13; rw [if_neg (by decide)] at H
    have H' := Aside0.mk H
    clear H; obtain ⟨_, _, _, _, _, _, _, _, _, _⟩ := box5 BK11
    go_wp2
    go_loopg [14] kj1 (fun kq v14 w' => ∃ (x14_2 : Int), v14 = .int .i64 x14_2 ∧ Aside0 (impl_IsStuck.l0 kq (l0_1.length : Int) x14_2 l0_0 l0_1 l0_2 a0_3 a0_4 = some r) ∧ Aside0 (kq ≤ kj1) ∧ Aside0 (w'.heap[gb11]? = some (.cells #[(.slice A0_0 l0_0.length c0_0), (.slice A0_1 l0_1.length c0_1), (.slice A0_2 l0_2.length c0_2), .int .i64 a0_3, .int .i64 a0_4] 33 (0, 0))) ∧ Aside0 (Below w.heap.size w w'))
    case atStart => exact ⟨(0), rfx, H', ⟨Nat.le_refl _⟩, ⟨bk⟩, ⟨bels⟩⟩
    case round =>
     clear H'
     try clear c1
     try clear p2
     try clear c3
     try clear c5
     try clear c13
     try clear p2
     obtain ⟨x14_2, rfl, HA, HK2, BK11, HB⟩ := hrel
     cases gk with
     | zero => exact absurd HA.out (by simp [impl_IsStuck.l0])
     | succ k2 =>
      have H := HA.out; clear HA
      simp only [impl_IsStuck.l0] at H
      by_cases c15 : x14_2 < (l0_1.length : Int)
      ·rw [if_pos c15] at H
       have c15b0 := decide_eq_true c15
       clear c15; obtain ⟨t14, A16, H⟩ := bnd H; (try dsimp only at H)
       by_cases c17 : t14 = true
       ·subst c17; rw [if_pos rfl] at H; obtain rfl := oI H; obtain ⟨_, _, _, _, _, _, _, _, _, _⟩ := box5 BK11
        go_wp2_with (first | (refine gL 49 (some 19) Tryz.func49 #[.agg #[.slice A0_0 l0_0.length c0_0, .slice A0_1 l0_1.length c0_1, .slice A0_2 l0_2.length c0_2, .int .i64 a0_3, .int .i64 a0_4], .int .i64 x14_2] ?_; refine (impl_Block_canStep.calls k2 _ _ l0_0 _ _ l0_1 _ _ l0_2 a0_3 a0_4 x14_2 true _ (cb HR0_0) HC0_0.out (cb HR0_1) HC0_1.out (cb HR0_2) HC0_2.out A16.out).mono ?_; rintro e w19 ⟨rfl, hb⟩; refine ⟨_, rfl, ?_⟩; replace BK11 := kb BK11 hb; replace HB := hbs hb; clear hb))
        go_ret
        exact ⟨rfe, bels⟩
       ·replace c17 := Bool.eq_false_iff.mpr c17; subst c17; rw [if_neg (by decide)] at H
        have H' := Aside0.mk H
        clear H; obtain ⟨_, _, _, _, _, _, _, _, _, _⟩ := box5 BK11
        go_wp2_with (first | (refine gL 49 (some 19) Tryz.func49 #[.agg #[.slice A0_0 l0_0.length c0_0, .slice A0_1 l0_1.length c0_1, .slice A0_2 l0_2.length c0_2, .int .i64 a0_3, .int .i64 a0_4], .int .i64 x14_2] ?_; refine (impl_Block_canStep.calls k2 _ _ l0_0 _ _ l0_1 _ _ l0_2 a0_3 a0_4 x14_2 false _ (cb HR0_0) HC0_0.out (cb HR0_1) HC0_1.out (cb HR0_2) HC0_2.out A16.out).mono ?_; rintro e w21 ⟨rfl, hb⟩; refine ⟨_, rfl, ?_⟩; replace BK11 := kb BK11 hb; replace HB := hbs hb; clear hb))
        go_roundg k2
        case measure => have := HJ1.out; have := HK2.out; omega
        case rel => exact ⟨(wrap64 (x14_2 + 1)), rfx, H', ⟨by have := HJ1.out; have := HK2.out; omega⟩, ⟨bk⟩, ⟨bels⟩⟩
      ·rw [if_neg c15] at H
       have c15b0 := decide_eq_false c15
       clear c15; obtain rfl := oI H
       go_wp2
       go_ret
       exact ⟨rfe, bels⟩

/-! ### impl_hasWarp: function 172 -/
def impl_hasWarp.f (k : Nat) (l0_0 : List (S95)) (l0_1 : List (S59)) (l0_2 : List Int) (a0_3 : Int) (a0_4 : Int) (a1 : Int) : Option (Bool) := (impl_BlockOk.f k l0_0 l0_1 l0_2 a0_3 a0_4).bind fun t12 => (if t12 = true then ((impl_within.f a1 0 (wrap64 ((l0_1.length : Int) - 1))).bind fun t13 => (some t13)) else (some false))
set_option maxHeartbeats 8000000 in
set_option maxRecDepth 100000 in
theorem impl_hasWarp.calls (k : Nat) (A0_0 : Option Addr) (c0_0 : Nat) (l0_0 : List (S95)) (A0_1 : Option Addr) (c0_1 : Nat) (l0_1 : List (S59)) (A0_2 : Option Addr) (c0_2 : Nat) (l0_2 : List Int) (a0_3 : Int) (a0_4 : Int) (a1 : Int) (r : Bool) (w : World) (hr0_0 : Kd.C k95 w A0_0 l0_0.length l0_0) (hc0_0 : l0_0.length ≤ c0_0) (hr0_1 : Kd.C k59 w A0_1 l0_1.length l0_1) (hc0_1 : l0_1.length ≤ c0_1) (hr0_2 : Kd.C (Kd.int .i64) w A0_2 l0_2.length l0_2) (hc0_2 : l0_2.length ≤ c0_2) (h : impl_hasWarp.f k l0_0 l0_1 l0_2 a0_3 a0_4 a1 = some r) :
  Calls Tryz.prog 172 #[.agg #[.slice A0_0 l0_0.length c0_0, .slice A0_1 l0_1.length c0_1, .slice A0_2 l0_2.length c0_2, .int .i64 a0_3, .int .i64 a0_4], .int .i64 a1] w fun e w' => e = .returned (.bool r) ∧ Below w.heap.size w w' := by
 have hu33 := Tryz.underlying33; have HR0_0 := Aside0.mk hr0_0; have HC0_0 := Aside0.mk hc0_0; clear hr0_0 hc0_0; have HR0_1 := Aside0.mk hr0_1; have HC0_1 := Aside0.mk hc0_1; clear hr0_1 hc0_1; have HR0_2 := Aside0.mk hr0_2; have HC0_2 := Aside0.mk hc0_2; clear hr0_2 hc0_2; have HB := Aside0.mk (Below.refl w.heap.size w)
 have H : ((impl_BlockOk.f k l0_0 l0_1 l0_2 a0_3 a0_4).bind fun t12 => (if t12 = true then ((impl_within.f a1 0 (wrap64 ((l0_1.length : Int) - 1))).bind fun t13 => (some t13)) else (some false))) = some r := h
 clear h; obtain ⟨t12, A3, H⟩ := bnd H; (try dsimp only at H)
 by_cases c4 : t12 = true
 ·subst c4; rw [if_pos rfl] at H; obtain ⟨t13, A5, H⟩ := bnd H; (try dsimp only at H); obtain rfl := oI H
  go_enter Tryz.func172, Tryz.ntmps172
  go_wp2_with (first | ((with_reducible refine gate_dst (N := 2) rfl ?_); (try (refine gate_guard (by rfl) ?_; dsimp only)); refine box_event ?hg (N := 2) ?hd (cs := #[.slice A0_0 l0_0.length c0_0, .slice A0_1 l0_1.length c0_1, .slice A0_2 l0_2.length c0_2, .int .i64 a0_3, .int .i64 a0_4]) (t := 33) ?hr ?_; (case hd => rfl); (case hg => rfl); (case hr => exact gs); intro gb11 hg w6 hbox hb; have BK11 := Aside0.mk (hbox); have GW11 := Aside0.mk (gwe hg : w.heap.size ≤ _); have GE11 := GW11; replace HB := hbs hb; clear hb hbox hg; obtain ⟨_, _, _, _, _, _, _, _, _, _⟩ := box5 BK11) | (refine gL 35 (some 6) Tryz.func35 #[.agg #[.slice A0_0 l0_0.length c0_0, .slice A0_1 l0_1.length c0_1, .slice A0_2 l0_2.length c0_2, .int .i64 a0_3, .int .i64 a0_4]] ?_; refine (impl_BlockOk.calls k _ _ l0_0 _ _ l0_1 _ _ l0_2 a0_3 a0_4 true _ (cb HR0_0) HC0_0.out (cb HR0_1) HC0_1.out (cb HR0_2) HC0_2.out A3.out).mono ?_; rintro e w8 ⟨rfl, hb⟩; refine ⟨_, rfl, ?_⟩; replace BK11 := kb BK11 hb; replace HB := hbs hb; clear hb; obtain ⟨_, _, _, _, _, _, _, _, _, _⟩ := box5 BK11) | (go_at_call 70; (with_reducible refine (impl_within.calls a1 0 (wrap64 ((l0_1.length : Int) - 1)) t13 _ A5.out).mono ?_); rintro e w' ⟨rfl, ⟨nd, rfl⟩⟩))
  go_ret
  exact ⟨rfe, bels⟩
 ·replace c4 := Bool.eq_false_iff.mpr c4; subst c4; rw [if_neg (by decide)] at H; obtain rfl := oI H
  go_enter Tryz.func172, Tryz.ntmps172
  go_wp2_with (first | ((with_reducible refine gate_dst (N := 2) rfl ?_); (try (refine gate_guard (by rfl) ?_; dsimp only)); refine box_event ?hg (N := 2) ?hd (cs := #[.slice A0_0 l0_0.length c0_0, .slice A0_1 l0_1.length c0_1, .slice A0_2 l0_2.length c0_2, .int .i64 a0_3, .int .i64 a0_4]) (t := 33) ?hr ?_; (case hd => rfl); (case hg => rfl); (case hr => exact gs); intro gb11 hg w10 hbox hb; have BK11 := Aside0.mk (hbox); have GW11 := Aside0.mk (gwe hg : w.heap.size ≤ _); have GE11 := GW11; replace HB := hbs hb; clear hb hbox hg; obtain ⟨_, _, _, _, _, _, _, _, _, _⟩ := box5 BK11) | (refine gL 35 (some 6) Tryz.func35 #[.agg #[.slice A0_0 l0_0.length c0_0, .slice A0_1 l0_1.length c0_1, .slice A0_2 l0_2.length c0_2, .int .i64 a0_3, .int .i64 a0_4]] ?_; refine (impl_BlockOk.calls k _ _ l0_0 _ _ l0_1 _ _ l0_2 a0_3 a0_4 false _ (cb HR0_0) HC0_0.out (cb HR0_1) HC0_1.out (cb HR0_2) HC0_2.out A3.out).mono ?_; rintro e w12 ⟨rfl, hb⟩; refine ⟨_, rfl, ?_⟩; replace BK11 := kb BK11 hb; replace HB := hbs hb; clear hb))
  go_ret
  exact ⟨rfe, bels⟩

/-! ### impl_NextOp: function 147 -/
def impl_NextOp.f (k : Nat) (l0_0 : List (S95)) (l0_1 : List (S59)) (l0_2 : List Int) (a0_3 : Int) (a0_4 : Int) (a1 : Int) : Option (Int) := (impl_hasWarp.f k l0_0 l0_1 l0_2 a0_3 a0_4 a1).bind fun t12 => (if t12 = true then ((impl_Block_nextIns.f l0_0 l0_1 l0_2 a0_3 a0_4 a1).bind fun bt13 => (if bt13.2.2.2.2 = true then (some bt13.1) else (some (-1)))) else (some (-1)))
set_option maxHeartbeats 8000000 in
set_option maxRecDepth 100000 in
theorem impl_NextOp.calls (k : Nat) (A0_0 : Option Addr) (c0_0 : Nat) (l0_0 : List (S95)) (A0_1 : Option Addr) (c0_1 : Nat) (l0_1 : List (S59)) (A0_2 : Option Addr) (c0_2 : Nat) (l0_2 : List Int) (a0_3 : Int) (a0_4 : Int) (a1 : Int) (r : Int) (w : World) (hr0_0 : Kd.C k95 w A0_0 l0_0.length l0_0) (hc0_0 : l0_0.length ≤ c0_0) (hr0_1 : Kd.C k59 w A0_1 l0_1.length l0_1) (hc0_1 : l0_1.length ≤ c0_1) (hr0_2 : Kd.C (Kd.int .i64) w A0_2 l0_2.length l0_2) (hc0_2 : l0_2.length ≤ c0_2) (h : impl_NextOp.f k l0_0 l0_1 l0_2 a0_3 a0_4 a1 = some r) :
  Calls Tryz.prog 147 #[.agg #[.slice A0_0 l0_0.length c0_0, .slice A0_1 l0_1.length c0_1, .slice A0_2 l0_2.length c0_2, .int .i64 a0_3, .int .i64 a0_4], .int .i64 a1] w fun e w' => e = .returned (.int .i64 r) ∧ Below w.heap.size w w' := by
 have hu33 := Tryz.underlying33; have hu95 := Tryz.underlying95; have HR0_0 := Aside0.mk hr0_0; have HC0_0 := Aside0.mk hc0_0; clear hr0_0 hc0_0; have HR0_1 := Aside0.mk hr0_1; have HC0_1 := Aside0.mk hc0_1; clear hr0_1 hc0_1; have HR0_2 := Aside0.mk hr0_2; have HC0_2 := Aside0.mk hc0_2; clear hr0_2 hc0_2; have HB := Aside0.mk (Below.refl w.heap.size w)
 have H : ((impl_hasWarp.f k l0_0 l0_1 l0_2 a0_3 a0_4 a1).bind fun t12 => (if t12 = true then ((impl_Block_nextIns.f l0_0 l0_1 l0_2 a0_3 a0_4 a1).bind fun bt13 => (if bt13.2.2.2.2 = true then (some bt13.1) else (some (-1)))) else (some (-1)))) = some r := h
 clear h; obtain ⟨t12, A3, H⟩ := bnd H; (try dsimp only at H)
 by_cases c4 : t12 = true
 ·subst c4; rw [if_pos rfl] at H; obtain ⟨⟨t13, t14, t15, t16, t17⟩, A5, H⟩ := bnd H; (try dsimp only at H)
  by_cases c6 : t17 = true
  ·subst c6; rw [if_pos rfl] at H; obtain rfl := oI H
   go_enter Tryz.func147, Tryz.ntmps147
   go_wp2_with (first | (refine bxe 2 #[.slice A0_0 l0_0.length c0_0, .slice A0_1 l0_1.length c0_1, .slice A0_2 l0_2.length c0_2, .int .i64 a0_3, .int .i64 a0_4] 33 ?_; intro gb11 hg w7 hbox hb; have BK11 := Aside0.mk (hbox); have GW11 := Aside0.mk (gwe hg : w.heap.size ≤ _); have GE11 := GW11; replace HB := hbs hb; clear hb hbox hg; obtain ⟨_, _, _, _, _, _, _, _, _, _⟩ := box5 BK11) | (refine gL 172 (some 9) Tryz.func172 #[.agg #[.slice A0_0 l0_0.length c0_0, .slice A0_1 l0_1.length c0_1, .slice A0_2 l0_2.length c0_2, .int .i64 a0_3, .int .i64 a0_4], .int .i64 a1] ?_; refine (impl_hasWarp.calls k _ _ l0_0 _ _ l0_1 _ _ l0_2 a0_3 a0_4 a1 true _ (cb HR0_0) HC0_0.out (cb HR0_1) HC0_1.out (cb HR0_2) HC0_2.out A3.out).mono ?_; rintro e w9 ⟨rfl, hb⟩; refine ⟨_, rfl, ?_⟩; replace BK11 := kb BK11 hb; replace HB := hbs hb; clear hb; obtain ⟨_, _, _, _, _, _, _, _, _, _⟩ := box5 BK11) | (refine gL 85 (some 14) Tryz.func85 #[.agg #[.slice A0_0 l0_0.length c0_0, .slice A0_1 l0_1.length c0_1, .slice A0_2 l0_2.length c0_2, .int .i64 a0_3, .int .i64 a0_4], .int .i64 a1] ?_; refine (impl_Block_nextIns.calls _ _ l0_0 _ _ l0_1 _ _ l0_2 a0_3 a0_4 a1 t13 t14 t15 t16 true _ (cb HR0_0) HC0_0.out (cb HR0_1) HC0_1.out (cb HR0_2) HC0_2.out A5.out).mono ?_; rintro e w11 ⟨rfl, hb⟩; refine ⟨_, rfl, ?_⟩; replace BK11 := kb BK11 hb; replace HB := hbs hb; clear hb) | (refine bxe 5 #[.int .i64 0, .int .i64 0, .int .i64 0, .int .i64 0] 95 ?_; intro gb18 hg w12 hbox hb; have BK18 := Aside0.mk (hbox); have GW18 := Aside0.mk (gwe hg : w.heap.size ≤ _); have GE18 := GW18; have NB11_18 := Aside0.mk (nbl hg BK11); have NB18_11 := Aside0.mk (nbg hg BK11); replace BK11 := kb BK11 hb; replace HB := hbs hb; clear hb hbox hg; have hnb13 := NB18_11.out; have hnc13 := NB11_18.out; obtain ⟨_, _, _, _, _, _, _, _⟩ := box4 BK18))
   go_ret
   exact ⟨rfe, bels⟩
  ·replace c6 := Bool.eq_false_iff.mpr c6; subst c6; rw [if_neg (by decide)] at H; obtain rfl := oI H
   go_enter Tryz.func147, Tryz.ntmps147
   go_wp2_with (first | (refine bxe 2 #[.slice A0_0 l0_0.length c0_0, .slice A0_1 l0_1.length c0_1, .slice A0_2 l0_2.length c0_2, .int .i64 a0_3, .int .i64 a0_4] 33 ?_; intro gb11 hg w15 hbox hb; have BK11 := Aside0.mk (hbox); have GW11 := Aside0.mk (gwe hg : w.heap.size ≤ _); have GE11 := GW11; replace HB := hbs hb; clear hb hbox hg; obtain ⟨_, _, _, _, _, _, _, _, _, _⟩ := box5 BK11) | (refine gL 172 (some 9) Tryz.func172 #[.agg #[.slice A0_0 l0_0.length c0_0, .slice A0_1 l0_1.length c0_1, .slice A0_2 l0_2.length c0_2, .int .i64 a0_3, .int .i64 a0_4], .int .i64 a1] ?_; refine (impl_hasWarp.calls k _ _ l0_0 _ _ l0_1 _ _ l0_2 a0_3 a0_4 a1 true _ (cb HR0_0) HC0_0.out (cb HR0_1) HC0_1.out (cb HR0_2) HC0_2.out A3.out).mono ?_; rintro e w17 ⟨rfl, hb⟩; refine ⟨_, rfl, ?_⟩; replace BK11 := kb BK11 hb; replace HB := hbs hb; clear hb; obtain ⟨_, _, _, _, _, _, _, _, _, _⟩ := box5 BK11) | (refine gL 85 (some 14) Tryz.func85 #[.agg #[.slice A0_0 l0_0.length c0_0, .slice A0_1 l0_1.length c0_1, .slice A0_2 l0_2.length c0_2, .int .i64 a0_3, .int .i64 a0_4], .int .i64 a1] ?_; refine (impl_Block_nextIns.calls _ _ l0_0 _ _ l0_1 _ _ l0_2 a0_3 a0_4 a1 t13 t14 t15 t16 false _ (cb HR0_0) HC0_0.out (cb HR0_1) HC0_1.out (cb HR0_2) HC0_2.out A5.out).mono ?_; rintro e w19 ⟨rfl, hb⟩; refine ⟨_, rfl, ?_⟩; replace BK11 := kb BK11 hb; replace HB := hbs hb; clear hb) | (refine bxe 5 #[.int .i64 0, .int .i64 0, .int .i64 0, .int .i64 0] 95 ?_; intro gb18 hg w20 hbox hb; have BK18 := Aside0.mk (hbox); have GW18 := Aside0.mk (gwe hg : w.heap.size ≤ _); have GE18 := GW18; have NB11_18 := Aside0.mk (nbl hg BK11); have NB18_11 := Aside0.mk (nbg hg BK11); replace BK11 := kb BK11 hb; replace HB := hbs hb; clear hb hbox hg; have hnb21 := NB18_11.out; have hnc21 := NB11_18.out; obtain ⟨_, _, _, _, _, _, _, _⟩ := box4 BK18))
   go_ret
   exact ⟨rfe, bels⟩
 ·replace c4 := Bool.eq_false_iff.mpr c4; subst c4; rw [if_neg (by decide)] at H; obtain rfl := oI H
  go_enter Tryz.func147, Tryz.ntmps147
  go_wp2_with (first | (refine bxe 2 #[.slice A0_0 l0_0.length c0_0, .slice A0_1 l0_1.length c0_1, .slice A0_2 l0_2.length c0_2, .int .i64 a0_3, .int .i64 a0_4] 33 ?_; intro gb11 hg w23 hbox hb; have BK11 := Aside0.mk (hbox); have GW11 := Aside0.mk (gwe hg : w.heap.size ≤ _); have GE11 := GW11; replace HB := hbs hb; clear hb hbox hg; obtain ⟨_, _, _, _, _, _, _, _, _, _⟩ := box5 BK11) | (refine gL 172 (some 9) Tryz.func172 #[.agg #[.slice A0_0 l0_0.length c0_0, .slice A0_1 l0_1.length c0_1, .slice A0_2 l0_2.length c0_2, .int .i64 a0_3, .int .i64 a0_4], .int .i64 a1] ?_; refine (impl_hasWarp.calls k _ _ l0_0 _ _ l0_1 _ _ l0_2 a0_3 a0_4 a1 false _ (cb HR0_0) HC0_0.out (cb HR0_1) HC0_1.out (cb HR0_2) HC0_2.out A3.out).mono ?_; rintro e w25 ⟨rfl, hb⟩; refine ⟨_, rfl, ?_⟩; replace BK11 := kb BK11 hb; replace HB := hbs hb; clear hb))
  go_ret
  exact ⟨rfe, bels⟩

/-! ### impl_AtBarrier: function 116 -/
def impl_AtBarrier.f (k : Nat) (l0_0 : List (S95)) (l0_1 : List (S59)) (l0_2 : List Int) (a0_3 : Int) (a0_4 : Int) (a1 : Int) : Option (Bool) := (impl_NextOp.f k l0_0 l0_1 l0_2 a0_3 a0_4 a1).bind fun t12 => (some (t12 == 16))
set_option maxHeartbeats 8000000 in
set_option maxRecDepth 100000 in
theorem impl_AtBarrier.calls (k : Nat) (A0_0 : Option Addr) (c0_0 : Nat) (l0_0 : List (S95)) (A0_1 : Option Addr) (c0_1 : Nat) (l0_1 : List (S59)) (A0_2 : Option Addr) (c0_2 : Nat) (l0_2 : List Int) (a0_3 : Int) (a0_4 : Int) (a1 : Int) (r : Bool) (w : World) (hr0_0 : Kd.C k95 w A0_0 l0_0.length l0_0) (hc0_0 : l0_0.length ≤ c0_0) (hr0_1 : Kd.C k59 w A0_1 l0_1.length l0_1) (hc0_1 : l0_1.length ≤ c0_1) (hr0_2 : Kd.C (Kd.int .i64) w A0_2 l0_2.length l0_2) (hc0_2 : l0_2.length ≤ c0_2) (h : impl_AtBarrier.f k l0_0 l0_1 l0_2 a0_3 a0_4 a1 = some r) :
  Calls Tryz.prog 116 #[.agg #[.slice A0_0 l0_0.length c0_0, .slice A0_1 l0_1.length c0_1, .slice A0_2 l0_2.length c0_2, .int .i64 a0_3, .int .i64 a0_4], .int .i64 a1] w fun e w' => e = .returned (.bool r) ∧ Below w.heap.size w w' := by
 have hu33 := Tryz.underlying33; have HR0_0 := Aside0.mk hr0_0; have HC0_0 := Aside0.mk hc0_0; clear hr0_0 hc0_0; have HR0_1 := Aside0.mk hr0_1; have HC0_1 := Aside0.mk hc0_1; clear hr0_1 hc0_1; have HR0_2 := Aside0.mk hr0_2; have HC0_2 := Aside0.mk hc0_2; clear hr0_2 hc0_2; have HB := Aside0.mk (Below.refl w.heap.size w)
 have H : ((impl_NextOp.f k l0_0 l0_1 l0_2 a0_3 a0_4 a1).bind fun t12 => (some (t12 == 16))) = some r := h
 clear h; obtain ⟨t12, A3, H⟩ := bnd H; (try dsimp only at H); obtain rfl := oI H
 go_enter Tryz.func116, Tryz.ntmps116
 go_wp2_with (first | (refine bxe 2 #[.slice A0_0 l0_0.length c0_0, .slice A0_1 l0_1.length c0_1, .slice A0_2 l0_2.length c0_2, .int .i64 a0_3, .int .i64 a0_4] 33 ?_; intro gb11 hg w4 hbox hb; have BK11 := Aside0.mk (hbox); have GW11 := Aside0.mk (gwe hg : w.heap.size ≤ _); have GE11 := GW11; replace HB := hbs hb; clear hb hbox hg; obtain ⟨_, _, _, _, _, _, _, _, _, _⟩ := box5 BK11) | (refine gL 147 (some 7) Tryz.func147 #[.agg #[.slice A0_0 l0_0.length c0_0, .slice A0_1 l0_1.length c0_1, .slice A0_2 l0_2.length c0_2, .int .i64 a0_3, .int .i64 a0_4], .int .i64 a1] ?_; refine (impl_NextOp.calls k _ _ l0_0 _ _ l0_1 _ _ l0_2 a0_3 a0_4 a1 t12 _ (cb HR0_0) HC0_0.out (cb HR0_1) HC0_1.out (cb HR0_2) HC0_2.out A3.out).mono ?_; rintro e w6 ⟨rfl, hb⟩; refine ⟨_, rfl, ?_⟩; replace BK11 := kb BK11 hb; replace HB := hbs hb; clear hb))
 go_ret
 exact ⟨rfe, bels⟩

/-! ### impl_IsSplitBarrier: function 74 -/
def impl_IsSplitBarrier.f (k : Nat) (l0_0 : List (S95)) (l0_1 : List (S59)) (l0_2 : List Int) (a0_3 : Int) (a0_4 : Int) (a1 : Int) : Option (Bool) := (impl_AtBarrier.f k l0_0 l0_1 l0_2 a0_3 a0_4 a1).bind fun t12 => (if t12 = true then (if 0 ≤ a1 then (if a1 < (l0_1.length : Int) then (some (decide ((((rd_T59 l0_1 a1).f1).length : Int) > 1))) else (none)) else (none)) else (some false))
set_option maxHeartbeats 8000000 in
set_option maxRecDepth 100000 in
theorem impl_IsSplitBarrier.calls (k : Nat) (A0_0 : Option Addr) (c0_0 : Nat) (l0_0 : List (S95)) (A0_1 : Option Addr) (c0_1 : Nat) (l0_1 : List (S59)) (A0_2 : Option Addr) (c0_2 : Nat) (l0_2 : List Int) (a0_3 : Int) (a0_4 : Int) (a1 : Int) (r : Bool) (w : World) (hr0_0 : Kd.C k95 w A0_0 l0_0.length l0_0) (hc0_0 : l0_0.length ≤ c0_0) (hr0_1 : Kd.C k59 w A0_1 l0_1.length l0_1) (hc0_1 : l0_1.length ≤ c0_1) (hr0_2 : Kd.C (Kd.int .i64) w A0_2 l0_2.length l0_2) (hc0_2 : l0_2.length ≤ c0_2) (h : impl_IsSplitBarrier.f k l0_0 l0_1 l0_2 a0_3 a0_4 a1 = some r) :
  Calls Tryz.prog 74 #[.agg #[.slice A0_0 l0_0.length c0_0, .slice A0_1 l0_1.length c0_1, .slice A0_2 l0_2.length c0_2, .int .i64 a0_3, .int .i64 a0_4], .int .i64 a1] w fun e w' => e = .returned (.bool r) ∧ Below w.heap.size w w' := by
 have hu33 := Tryz.underlying33; have HR0_0 := Aside0.mk hr0_0; have HC0_0 := Aside0.mk hc0_0; clear hr0_0 hc0_0; have HR0_1 := Aside0.mk hr0_1; have HC0_1 := Aside0.mk hc0_1; clear hr0_1 hc0_1; have HR0_2 := Aside0.mk hr0_2; have HC0_2 := Aside0.mk hc0_2; clear hr0_2 hc0_2; have HB := Aside0.mk (Below.refl w.heap.size w)
 have H : ((impl_AtBarrier.f k l0_0 l0_1 l0_2 a0_3 a0_4 a1).bind fun t12 => (if t12 = true then (if 0 ≤ a1 then (if a1 < (l0_1.length : Int) then (some (decide ((((rd_T59 l0_1 a1).f1).length : Int) > 1))) else (none)) else (none)) else (some false))) = some r := h
 clear h; obtain ⟨t12, A3, H⟩ := bnd H; (try dsimp only at H)
 by_cases c4 : t12 = true
 ·subst c4; rw [if_pos rfl] at H
  obtain ⟨c5, H⟩ := ifS H
  have c5b0 := decide_eq_true c5
  clear c5
  obtain ⟨c6, H⟩ := ifS H
  have c6b0 := decide_eq_true c6
  clear c6; obtain rfl := oI H
  go_enter Tryz.func74, Tryz.ntmps74
  go_wp2_with (first | ((with_reducible refine gate_dst (N := 2) rfl ?_); (try (refine gate_guard (by rfl) ?_; dsimp only)); refine box_event ?hg (N := 2) ?hd (cs := #[.slice A0_0 l0_0.length c0_0, .slice A0_1 l0_1.length c0_1, .slice A0_2 l0_2.length c0_2, .int .i64 a0_3, .int .i64 a0_4]) (t := 33) ?hr ?_; (case hd => rfl); (case hg => rfl); (case hr => exact gs); intro gb11 hg w7 hbox hb; have BK11 := Aside0.mk (hbox); have GW11 := Aside0.mk (gwe hg : w.heap.size ≤ _); have GE11 := GW11; replace HB := hbs hb; clear hb hbox hg; obtain ⟨_, _, _, _, _, _, _, _, _, _⟩ := box5 BK11) | (refine gL 116 (some 7) Tryz.func116 #[.agg #[.slice A0_0 l0_0.length c0_0, .slice A0_1 l0_1.length c0_1, .slice A0_2 l0_2.length c0_2, .int .i64 a0_3, .int .i64 a0_4], .int .i64 a1] ?_; refine (impl_AtBarrier.calls k _ _ l0_0 _ _ l0_1 _ _ l0_2 a0_3 a0_4 a1 true _ (cb HR0_0) HC0_0.out (cb HR0_1) HC0_1.out (cb HR0_2) HC0_2.out A3.out).mono ?_; rintro e w9 ⟨rfl, hb⟩; refine ⟨_, rfl, ?_⟩; replace BK11 := kb BK11 hb; replace HB := hbs hb; clear hb; obtain ⟨_, _, _, _, _, _, _, _, _, _⟩ := box5 BK11; have p13 : 0 ≤ (a1 : Int) := pq0; have q13 : a1 < (l0_1.length : Int) := pq0; obtain ⟨ad13, A13_1, c13_1, A13_2, c13_2, e13, hx13_0, hx13_1, hx13_2, hl13_1, hi13_1, hl13_2, hi13_2⟩ := at_T59 HR0_1.out a1 p13 q13; cases e13; replace hx13_0 := hxb hx13_0; replace hx13_1 := hxb hx13_1; replace hx13_2 := hxb hx13_2; have HR13_1 := Aside0.mk hi13_1; have HC13_1 := Aside0.mk hl13_1; clear hi13_1 hl13_1; have HR13_2 := Aside0.mk hi13_2; have HC13_2 := Aside0.mk hl13_2; clear hi13_2 hl13_2; replace p13 := eq_true p13; replace q13 := eq_true q13))
  go_ret
  exact ⟨rfe, bels⟩
 ·replace c4 := Bool.eq_false_iff.mpr c4; subst c4; rw [if_neg (by decide)] at H; obtain rfl := oI H
  go_enter Tryz.func74, Tryz.ntmps74
  go_wp2_with (first | ((with_reducible refine gate_dst (N := 2) rfl ?_); (try (refine gate_guard (by rfl) ?_; dsimp only)); refine box_event ?hg (N := 2) ?hd (cs := #[.slice A0_0 l0_0.length c0_0, .slice A0_1 l0_1.length c0_1, .slice A0_2 l0_2.length c0_2, .int .i64 a0_3, .int .i64 a0_4]) (t := 33) ?hr ?_; (case hd => rfl); (case hg => rfl); (case hr => exact gs); intro gb11 hg w11 hbox hb; have BK11 := Aside0.mk (hbox); have GW11 := Aside0.mk (gwe hg : w.heap.size ≤ _); have GE11 := GW11; replace HB := hbs hb; clear hb hbox hg; obtain ⟨_, _, _, _, _, _, _, _, _, _⟩ := box5 BK11) | (refine gL 116 (some 7) Tryz.func116 #[.agg #[.slice A0_0 l0_0.length c0_0, .slice A0_1 l0_1.length c0_1, .slice A0_2 l0_2.length c0_2, .int .i64 a0_3, .int .i64 a0_4], .int .i64 a1] ?_; refine (impl_AtBarrier.calls k _ _ l0_0 _ _ l0_1 _ _ l0_2 a0_3 a0_4 a1 false _ (cb HR0_0) HC0_0.out (cb HR0_1) HC0_1.out (cb HR0_2) HC0_2.out A3.out).mono ?_; rintro e w13 ⟨rfl, hb⟩; refine ⟨_, rfl, ?_⟩; replace BK11 := kb BK11 hb; replace HB := hbs hb; clear hb))
  go_ret
  exact ⟨rfe, bels⟩

/-! ### impl_StuckReason: function 37 -/
def impl_StuckReason.l0 : Nat → Int → Int → List (S95) → List (S59) → List Int → Int → Int → Option (ByteArray)
 | 0, _, _, _, _, _, _, _ => none
 | k + 1, x9, x10, x12000, x12001, x12002, x12003, x12004 => if x10 < x9 then ((impl_IsSplitBarrier.f k x12000 x12001 x12002 x12003 x12004 x10).bind fun t13 => (if t13 = true then (some (⟨#[115, 112, 108, 105, 116]⟩ : ByteArray)) else (impl_StuckReason.l0 k x9 (wrap64 (x10 + 1)) x12000 x12001 x12002 x12003 x12004))) else (some (⟨#[102, 114, 97, 109, 101, 115]⟩ : ByteArray))
def impl_StuckReason.f (k : Nat) (l0_0 : List (S95)) (l0_1 : List (S59)) (l0_2 : List Int) (a0_3 : Int) (a0_4 : Int) : Option (ByteArray) := (impl_IsStuck.f k l0_0 l0_1 l0_2 a0_3 a0_4).bind fun t12 => (if t12 = true then (impl_StuckReason.l0 k (l0_1.length : Int) 0 l0_0 l0_1 l0_2 a0_3 a0_4) else (some (⟨#[]⟩ : ByteArray)))
set_option maxHeartbeats 8000000 in
set_option maxRecDepth 100000 in
theorem impl_StuckReason.calls (k : Nat) (A0_0 : Option Addr) (c0_0 : Nat) (l0_0 : List (S95)) (A0_1 : Option Addr) (c0_1 : Nat) (l0_1 : List (S59)) (A0_2 : Option Addr) (c0_2 : Nat) (l0_2 : List Int) (a0_3 : Int) (a0_4 : Int) (r : ByteArray) (w : World) (hr0_0 : Kd.C k95 w A0_0 l0_0.length l0_0) (hc0_0 : l0_0.length ≤ c0_0) (hr0_1 : Kd.C k59 w A0_1 l0_1.length l0_1) (hc0_1 : l0_1.length ≤ c0_1) (hr0_2 : Kd.C (Kd.int .i64) w A0_2 l0_2.length l0_2) (hc0_2 : l0_2.length ≤ c0_2) (h : impl_StuckReason.f k l0_0 l0_1 l0_2 a0_3 a0_4 = some r) :
  Calls Tryz.prog 37 #[.agg #[.slice A0_0 l0_0.length c0_0, .slice A0_1 l0_1.length c0_1, .slice A0_2 l0_2.length c0_2, .int .i64 a0_3, .int .i64 a0_4]] w fun e w' => e = .returned (.string r) ∧ Below w.heap.size w w' := by
 have hu33 := Tryz.underlying33; have HR0_0 := Aside0.mk hr0_0; have HC0_0 := Aside0.mk hc0_0; clear hr0_0 hc0_0; have HR0_1 := Aside0.mk hr0_1; have HC0_1 := Aside0.mk hc0_1; clear hr0_1 hc0_1; have HR0_2 := Aside0.mk hr0_2; have HC0_2 := Aside0.mk hc0_2; clear hr0_2 hc0_2; have HB := Aside0.mk (Below.refl w.heap.size w)
 have H : ((impl_IsStuck.f k l0_0 l0_1 l0_2 a0_3 a0_4).bind fun t12 => (if t12 = true then (impl_StuckReason.l0 k (l0_1.length : Int) 0 l0_0 l0_1 l0_2 a0_3 a0_4) else (some (⟨#[]⟩ : ByteArray)))) = some r := h
 clear h; obtain ⟨t12, A2, H⟩ := bnd H; (try dsimp only at H)
 by_cases c3 : t12 = true
 ·subst c3; rw [if_pos rfl] at H
  have H' := Aside0.mk H
  clear H
  go_enter Tryz.func37, Tryz.ntmps37
  go_wp2_with (first | (refine bxe 1 #[.slice A0_0 l0_0.length c0_0, .slice A0_1 l0_1.length c0_1, .slice A0_2 l0_2.length c0_2, .int .i64 a0_3, .int .i64 a0_4] 33 ?_; intro gb11 hg w4 hbox hb; have BK11 := Aside0.mk (hbox); have GW11 := Aside0.mk (gwe hg : w.heap.size ≤ _); have GE11 := GW11; replace HB := hbs hb; clear hb hbox hg; obtain ⟨_, _, _, _, _, _, _, _, _, _⟩ := box5 BK11) | (refine gL 19 (some 5) Tryz.func19 #[.agg #[.slice A0_0 l0_0.length c0_0, .slice A0_1 l0_1.length c0_1, .slice A0_2 l0_2.length c0_2, .int .i64 a0_3, .int .i64 a0_4]] ?_; refine (impl_IsStuck.calls k _ _ l0_0 _ _ l0_1 _ _ l0_2 a0_3 a0_4 true _ (cb HR0_0) HC0_0.out (cb HR0_1) HC0_1.out (cb HR0_2) HC0_2.out A2.out).mono ?_; rintro e w6 ⟨rfl, hb⟩; refine ⟨_, rfl, ?_⟩; replace BK11 := kb BK11 hb; replace HB := hbs hb; clear hb; obtain ⟨_, _, _, _, _, _, _, _, _, _⟩ := box5 BK11))
  go_loopg [10] k (fun kq v10 w' => ∃ (x10_1 : Int), v10 = .int .i64 x10_1 ∧ Aside0 (impl_StuckReason.l0 kq (l0_1.length : Int) x10_1 l0_0 l0_1 l0_2 a0_3 a0_4 = some r) ∧ Aside0 (kq ≤ k) ∧ Aside0 (w'.heap[gb11]? = some (.cells #[(.slice A0_0 l0_0.length c0_0), (.slice A0_1 l0_1.length c0_1), (.slice A0_2 l0_2.length c0_2), .int .i64 a0_3, .int .i64 a0_4] 33 (0, 0))) ∧ Aside0 (Below w.heap.size w w'))
  case atStart => exact ⟨(0), rfx, H', ⟨Nat.le_refl _⟩, ⟨bk⟩, ⟨bels⟩⟩
  case round =>
   clear H'
   try clear c1
   try clear p2
   try clear c3
   obtain ⟨x10_1, rfl, HA, HK1, BK11, HB⟩ := hrel
   cases gk with
   | zero => exact absurd HA.out (by simp [impl_StuckReason.l0])
   | succ k1 =>
    have H := HA.out; clear HA
    simp only [impl_StuckReason.l0] at H
    by_cases c8 : x10_1 < (l0_1.length : Int)
    ·rw [if_pos c8] at H
     have c8b0 := decide_eq_true c8
     clear c8; obtain ⟨t13, A9, H⟩ := bnd H; (try dsimp only at H)
     by_cases c10 : t13 = true
     ·subst c10; rw [if_pos rfl] at H; obtain rfl := oI H; obtain ⟨_, _, _, _, _, _, _, _, _, _⟩ := box5 BK11
      go_wp2_with (first | (refine gL 74 (some 15) Tryz.func74 #[.agg #[.slice A0_0 l0_0.length c0_0, .slice A0_1 l0_1.length c0_1, .slice A0_2 l0_2.length c0_2, .int .i64 a0_3, .int .i64 a0_4], .int .i64 x10_1] ?_; refine (impl_IsSplitBarrier.calls k1 _ _ l0_0 _ _ l0_1 _ _ l0_2 a0_3 a0_4 x10_1 true _ (cb HR0_0) HC0_0.out (cb HR0_1) HC0_1.out (cb HR0_2) HC0_2.out A9.out).mono ?_; rintro e w12 ⟨rfl, hb⟩; refine ⟨_, rfl, ?_⟩; replace BK11 := kb BK11 hb; replace HB := hbs hb; clear hb))
      go_ret
      exact ⟨rfe, bels⟩
     ·replace c10 := Bool.eq_false_iff.mpr c10; subst c10; rw [if_neg (by decide)] at H
      have H' := Aside0.mk H
      clear H; obtain ⟨_, _, _, _, _, _, _, _, _, _⟩ := box5 BK11
      go_wp2_with (first | (refine gL 74 (some 15) Tryz.func74 #[.agg #[.slice A0_0 l0_0.length c0_0, .slice A0_1 l0_1.length c0_1, .slice A0_2 l0_2.length c0_2, .int .i64 a0_3, .int .i64 a0_4], .int .i64 x10_1] ?_; refine (impl_IsSplitBarrier.calls k1 _ _ l0_0 _ _ l0_1 _ _ l0_2 a0_3 a0_4 x10_1 false _ (cb HR0_0) HC0_0.out (cb HR0_1) HC0_1.out (cb HR0_2) HC0_2.out A9.out).mono ?_; rintro e w14 ⟨rfl, hb⟩; refine ⟨_, rfl, ?_⟩; replace BK11 := kb BK11 hb; replace HB := hbs hb; clear hb))
      go_roundg k1
      case measure => have := HK1.out; omega
      case rel => exact ⟨(wrap64 (x10_1 + 1)), rfx, H', ⟨by have := HK1.out; omega⟩, ⟨bk⟩, ⟨bels⟩⟩
    ·rw [if_neg c8] at H
     have c8b0 := decide_eq_false c8
     clear c8; obtain rfl := oI H
     go_wp2
     go_ret
     exact ⟨rfe, bels⟩
 ·replace c3 := Bool.eq_false_iff.mpr c3; subst c3; rw [if_neg (by decide)] at H; obtain rfl := oI H
  go_enter Tryz.func37, Tryz.ntmps37
  go_wp2_with (first | (refine bxe 1 #[.slice A0_0 l0_0.length c0_0, .slice A0_1 l0_1.length c0_1, .slice A0_2 l0_2.length c0_2, .int .i64 a0_3, .int .i64 a0_4] 33 ?_; intro gb11 hg w15 hbox hb; have BK11 := Aside0.mk (hbox); have GW11 := Aside0.mk (gwe hg : w.heap.size ≤ _); have GE11 := GW11; replace HB := hbs hb; clear hb hbox hg; obtain ⟨_, _, _, _, _, _, _, _, _, _⟩ := box5 BK11) | (refine gL 19 (some 5) Tryz.func19 #[.agg #[.slice A0_0 l0_0.length c0_0, .slice A0_1 l0_1.length c0_1, .slice A0_2 l0_2.length c0_2, .int .i64 a0_3, .int .i64 a0_4]] ?_; refine (impl_IsStuck.calls k _ _ l0_0 _ _ l0_1 _ _ l0_2 a0_3 a0_4 false _ (cb HR0_0) HC0_0.out (cb HR0_1) HC0_1.out (cb HR0_2) HC0_2.out A2.out).mono ?_; rintro e w17 ⟨rfl, hb⟩; refine ⟨_, rfl, ?_⟩; replace BK11 := kb BK11 hb; replace HB := hbs hb; clear hb))
  go_ret
  exact ⟨rfe, bels⟩

/-! ### impl_WrapWord: function 38 -/
def impl_WrapWord.f (a0 : Int) : Option (Int) := some (Go.bits .and .i64 a0 65535)
set_option maxHeartbeats 8000000 in
set_option maxRecDepth 100000 in
theorem impl_WrapWord.calls (a0 : Int) (r : Int) (w : World) (h : impl_WrapWord.f a0 = some r) :
  Calls Tryz.prog 38 #[.int .i64 a0] w fun e w' => e = .returned (.int .i64 r) ∧ Drawn0 w w' := by
 have H : (some (Go.bits .and .i64 a0 65535)) = some r := h
 clear h; obtain rfl := oI H
 go_enter Tryz.func38, Tryz.ntmps38
 go_wp2
 go_ret
 exact ⟨by first | rfl | (simp; done) | (simp [*]; done), by repeat (first | exact Drawn0.refl _ | apply Drawn0.step)⟩

/-! ### impl_FormatBlock: function 9 -/
mutual
def impl_FormatBlock.l0 : Nat → Int → Int → List (S59) → Int → Int → List (S95) → List (S59) → List Int → Int → Int → Option (List ByteArray)
 | 0, _, _, _, _, _, _, _, _, _, _ => none
 | k + 1, x3, x4, x14, x15, x16, x12000, x12001, x12002, x12003, x12004 => if x16 < x15 then (if 0 ≤ x16 then (if x16 < (x14.length : Int) then (if (((rd_T59 x14 x16).f1).length : Int) = 0 then (impl_FormatBlock.l0 k (wrap64 (x3 + 1)) x4 x14 x15 (wrap64 (x16 + 1)) x12000 x12001 x12002 x12003 x12004) else (impl_FormatBlock.l0 k x3 x4 x14 x15 (wrap64 (x16 + 1)) x12000 x12001 x12002 x12003 x12004)) else (none)) else (none)) else (impl_FormatBlock.l1 k x3 x4 x12002 (x12002.length : Int) 0 x12000 x12001 x12002 x12003 x12004)
def impl_FormatBlock.l1 : Nat → Int → Int → List Int → Int → Int → List (S95) → List (S59) → List Int → Int → Int → Option (List ByteArray)
 | 0, _, _, _, _, _, _, _, _, _, _ => none
 | k + 1, x3, x4, x28, x29, x30, x12000, x12001, x12002, x12003, x12004 => if x30 < x29 then (if 0 ≤ x30 then (if x30 < (x28.length : Int) then (impl_FormatBlock.l1 k x3 (wrap64 (x4 + (rd x28 x30))) x28 x29 (wrap64 (x30 + 1)) x12000 x12001 x12002 x12003 x12004) else (none)) else (none)) else ((impl_Block_ended.f k x12000 x12001 x12002 x12003 x12004).bind fun t16 => (if t16 = true then (impl_FormatBlock.j2 k x3 x4 (⟨#[100, 111, 110, 101]⟩ : ByteArray) x12000 x12001 x12002 x12003 x12004) else ((impl_IsStuck.f k x12000 x12001 x12002 x12003 x12004).bind fun t17 => (if t17 = true then ((impl_StuckReason.f k x12000 x12001 x12002 x12003 x12004).bind fun t18 => (if 6 + t18.size ≤ 9223372036854775807 then (impl_FormatBlock.j2 k x3 x4 ((⟨#[115, 116, 117, 99, 107, 32]⟩ : ByteArray) ++ t18) x12000 x12001 x12002 x12003 x12004) else (none))) else (impl_FormatBlock.j2 k x3 x4 (⟨#[114, 117, 110, 110, 105, 110, 103]⟩ : ByteArray) x12000 x12001 x12002 x12003 x12004)))))
def impl_FormatBlock.j2 : Nat → Int → Int → ByteArray → List (S95) → List (S59) → List Int → Int → Int → Option (List ByteArray)
 | 0, _, _, _, _, _, _, _, _ => none
 | k + 1, x3, x4, x9, x12000, x12001, x12002, x12003, x12004 => (impl_FormatInt.f (x12001.length : Int)).bind fun t19 => (if 6 + t19.size ≤ 9223372036854775807 then ((impl_FormatInt.f x3).bind fun t20 => (if 6 + t20.size ≤ 9223372036854775807 then ((impl_FormatInt.f x12003).bind fun t21 => (if 8 + t21.size ≤ 9223372036854775807 then ((impl_FormatInt.f x12004).bind fun t22 => (if 6 + t22.size ≤ 9223372036854775807 then ((impl_WrapWord.f x4).bind fun t23 => ((impl_FormatInt.f t23).bind fun t24 => (if 4 + t24.size ≤ 9223372036854775807 then (some (([(⟨#[119, 97, 114, 112, 115, 32]⟩ : ByteArray) ++ t19, (⟨#[101, 110, 100, 101, 100, 32]⟩ : ByteArray) ++ t20, (⟨#[119, 97, 105, 116, 105, 110, 103, 32]⟩ : ByteArray) ++ t21, (⟨#[112, 104, 97, 115, 101, 32]⟩ : ByteArray) ++ t22, (⟨#[115, 117, 109, 32]⟩ : ByteArray) ++ t24, x9] : List ByteArray))) else (none)))) else (none))) else (none))) else (none))) else (none))
end
def impl_FormatBlock.f (k : Nat) (l0_0 : List (S95)) (l0_1 : List (S59)) (l0_2 : List Int) (a0_3 : Int) (a0_4 : Int) : Option (List ByteArray) := (impl_BlockOk.f k l0_0 l0_1 l0_2 a0_3 a0_4).bind fun t12 => (if t12 = true then (impl_FormatBlock.l0 k 0 0 l0_1 (l0_1.length : Int) 0 l0_0 l0_1 l0_2 a0_3 a0_4) else (some ([] : List ByteArray)))
def impl_FormatBlock.T20 : Bool × List (List Nat × List Nat) := (true, [([], []), ([0], [0]), ([1], [1]), ([2], [2]), ([3], [3]), ([], []), ([5, 3], [5]), ([6], [6]), ([], []), ([8], [8]), ([9, 6], [9]), ([10], [10]), ([], []), ([12], [12]), ([13, 10], [13]), ([14], [14]), ([], []), ([16, 14], [16]), ([17, 17], [17]), ([18], [18]), ([], []), ([4, 7, 11, 15, 19, 20], [4, 7, 11, 15, 19, 20]), ([21, 18, 0, 1, 2, 3, 4, 5, 6, 7, 8, 9, 10, 11, 12, 13, 14, 15, 16, 17, 18, 19, 20, 21], [21])])
def impl_FormatBlock.B20 : List Nat := [0, 1, 3, 7, 15, 0, 47, 111, 0, 256, 879, 1903, 0, 4096, 14191, 30575, 0, 96111, 227183, 489327, 0, 2097151, 4194303]
theorem impl_FormatBlock.tab20 : rtab .any (opsOf Tryz.f9 20) = impl_FormatBlock.T20 := by kernel_rfl
theorem impl_FormatBlock.bits20 : waitsOk impl_FormatBlock.T20.2 impl_FormatBlock.B20 = true := by kernel_rfl
set_option maxHeartbeats 8000000 in
set_option maxRecDepth 100000 in
theorem impl_FormatBlock.calls (k : Nat) (A0_0 : Option Addr) (c0_0 : Nat) (l0_0 : List (S95)) (A0_1 : Option Addr) (c0_1 : Nat) (l0_1 : List (S59)) (A0_2 : Option Addr) (c0_2 : Nat) (l0_2 : List Int) (a0_3 : Int) (a0_4 : Int) (r : List ByteArray) (w : World) (hr0_0 : Kd.C k95 w A0_0 l0_0.length l0_0) (hc0_0 : l0_0.length ≤ c0_0) (hr0_1 : Kd.C k59 w A0_1 l0_1.length l0_1) (hc0_1 : l0_1.length ≤ c0_1) (hr0_2 : Kd.C (Kd.int .i64) w A0_2 l0_2.length l0_2) (hc0_2 : l0_2.length ≤ c0_2) (h : impl_FormatBlock.f k l0_0 l0_1 l0_2 a0_3 a0_4 = some r) (htab : PowIs w := by (apply PowIs.on; (refine Aside0.out ?_; assumption); repeat (first | (refine Aside0.out ?_; assumption) | apply below_alloc | apply pw_below_drewN | apply below_drew1 | (refine below_set ?_ (Aside0.out (by assumption)))))) :
  Calls Tryz.prog 9 #[.agg #[.slice A0_0 l0_0.length c0_0, .slice A0_1 l0_1.length c0_1, .slice A0_2 l0_2.length c0_2, .int .i64 a0_3, .int .i64 a0_4]] w fun e w' => ∃ v0_ : Value, e = .returned (v0_) ∧ Kd.R Kd.string 9 w' w.heap.size (fun _ => True) v0_ r ∧ Below w.heap.size w w' := by
 have HTAB : Aside0 (PowIs w) := ⟨htab⟩
 clear htab; have hu33 := Tryz.underlying33; have hu59 := Tryz.underlying59; have HR0_0 := Aside0.mk hr0_0; have HC0_0 := Aside0.mk hc0_0; clear hr0_0 hc0_0; have HR0_1 := Aside0.mk hr0_1; have HC0_1 := Aside0.mk hc0_1; clear hr0_1 hc0_1; have HR0_2 := Aside0.mk hr0_2; have HC0_2 := Aside0.mk hc0_2; clear hr0_2 hc0_2; have HB := Aside0.mk (Below.refl w.heap.size w)
 have H : ((impl_BlockOk.f k l0_0 l0_1 l0_2 a0_3 a0_4).bind fun t12 => (if t12 = true then (impl_FormatBlock.l0 k 0 0 l0_1 (l0_1.length : Int) 0 l0_0 l0_1 l0_2 a0_3 a0_4) else (some ([] : List ByteArray)))) = some r := h
 clear h; obtain ⟨t12, A2, H⟩ := bnd H; (try dsimp only at H)
 by_cases c3 : t12 = true
 ·subst c3; rw [if_pos rfl] at H
  have H' := Aside0.mk H
  clear H
  go_enter Tryz.func9, Tryz.ntmps9
  go_wp2_with (first | (refine bxe 1 #[.slice A0_0 l0_0.length c0_0, .slice A0_1 l0_1.length c0_1, .slice A0_2 l0_2.length c0_2, .int .i64 a0_3, .int .i64 a0_4] 33 ?_; intro gb11 hg w4 hbox hb; have BK11 := Aside0.mk (hbox); have GW11 := Aside0.mk (gwe hg : w.heap.size ≤ _); have GE11 := GW11; replace HB := hbs hb; clear hb hbox hg; obtain ⟨_, _, _, _, _, _, _, _, _, _⟩ := box5 BK11) | (refine gL 35 (some 11) Tryz.func35 #[.agg #[.slice A0_0 l0_0.length c0_0, .slice A0_1 l0_1.length c0_1, .slice A0_2 l0_2.length c0_2, .int .i64 a0_3, .int .i64 a0_4]] ?_; refine (impl_BlockOk.calls k _ _ l0_0 _ _ l0_1 _ _ l0_2 a0_3 a0_4 true _ (cb HR0_0) HC0_0.out (cb HR0_1) HC0_1.out (cb HR0_2) HC0_2.out A2.out).mono ?_; rintro e w6 ⟨rfl, hb⟩; refine ⟨_, rfl, ?_⟩; replace BK11 := kb BK11 hb; replace HB := hbs hb; clear hb; obtain ⟨_, _, _, _, _, _, _, _, _, _⟩ := box5 BK11))
  go_loopg [3, 16] k (fun kq v3 v16 w' => ∃ (x3_1 : Int) (x16_1 : Int), v3 = .int .i64 x3_1 ∧ v16 = .int .i64 x16_1 ∧ Aside0 (impl_FormatBlock.l0 kq x3_1 0 l0_1 (l0_1.length : Int) x16_1 l0_0 l0_1 l0_2 a0_3 a0_4 = some r) ∧ Aside0 (kq ≤ k) ∧ Aside0 (w'.heap[gb11]? = some (.cells #[(.slice A0_0 l0_0.length c0_0), (.slice A0_1 l0_1.length c0_1), (.slice A0_2 l0_2.length c0_2), .int .i64 a0_3, .int .i64 a0_4] 33 (0, 0))) ∧ Aside0 (Below w.heap.size w w'))
  case atStart => exact ⟨(0), (0), rfx, rfx, H', ⟨Nat.le_refl _⟩, ⟨bk⟩, ⟨bels⟩⟩
  case round =>
   clear H'
   try clear p2
   try clear c3
   obtain ⟨x3_1, x16_1, rfl, rfl, HA, HK1, BK11, HB⟩ := hrel
   cases gk with
   | zero => exact absurd HA.out (by simp [impl_FormatBlock.l0])
   | succ k1 =>
    have H := HA.out; clear HA
    simp only [impl_FormatBlock.l0] at H
    by_cases c8 : x16_1 < (l0_1.length : Int)
    ·rw [if_pos c8] at H
     have c8b0 := decide_eq_true c8
     clear c8
     obtain ⟨c9, H⟩ := ifS H
     have c9b0 := decide_eq_true c9
     clear c9
     obtain ⟨c10, H⟩ := ifS H
     have c10b0 := decide_eq_true c10
     clear c10
     by_cases c11 : (((rd_T59 l0_1 x16_1).f1).length : Int) = 0
     ·rw [if_pos c11] at H
      have c11b0 : ((((rd_T59 l0_1 x16_1).f1).length : Int) == 0) = true := beq_iff_eq.mpr c11
      have c11b1 : ((((rd_T59 l0_1 x16_1).f1).length : Int) != 0) = false := bne_eq_false_iff_eq.mpr c11
      clear c11
      have H' := Aside0.mk H
      clear H
      have p13 : 0 ≤ (x16_1 : Int) := pq0
      have q13 : x16_1 < (l0_1.length : Int) := pq0
      obtain ⟨ad13, A13_1, c13_1, A13_2, c13_2, e13, hx13_0, hx13_1, hx13_2, hl13_1, hi13_1, hl13_2, hi13_2⟩ := at_T59 HR0_1.out x16_1 p13 q13
      cases e13
      replace hx13_0 := hxb hx13_0; replace hx13_1 := hxb hx13_1; replace hx13_2 := hxb hx13_2; have HR13_1 := Aside0.mk hi13_1; have HC13_1 := Aside0.mk hl13_1; clear hi13_1 hl13_1; have HR13_2 := Aside0.mk hi13_2; have HC13_2 := Aside0.mk hl13_2; clear hi13_2 hl13_2; replace p13 := eq_true p13; replace q13 := eq_true q13
      go_wp2_with (first | (refine bxe 6 #[.int .i64 0, .slice none 0 0, .slice none 0 0] 59 ?_; intro gb14 hg w12 hbox hb; have BK14 := Aside0.mk (hbox); have GW14 := Aside0.mk (gwe hg : w.heap.size ≤ _); have GE14 := GW14; have NB11_14 := Aside0.mk (nbl hg BK11); have NB14_11 := Aside0.mk (nbg hg BK11); replace BK11 := kb BK11 hb; replace HB := hbs hb; clear hb hbox hg; have hnb13 := NB14_11.out; have hnc13 := NB11_14.out; obtain ⟨_, _, _, _, _, _⟩ := box3 BK14))
      go_roundg k1
      case measure => have := HK1.out; omega
      case rel => exact ⟨(wrap64 (x3_1 + 1)), (wrap64 (x16_1 + 1)), rfx, rfx, H', ⟨by have := HK1.out; omega⟩, ⟨bk⟩, ⟨bels⟩⟩
     ·rw [if_neg c11] at H
      have c11b0 : ((((rd_T59 l0_1 x16_1).f1).length : Int) == 0) = false := beq_eq_false_iff_ne.mpr c11
      have c11b1 : ((((rd_T59 l0_1 x16_1).f1).length : Int) != 0) = true := bne_iff_ne.mpr c11
      have c11b2 : ¬ (((rd_T59 l0_1 x16_1).f1) = []) := fun h_ => c11 (by rw [h_]; rfl)
      have H' := Aside0.mk H
      clear H
      have p13 : 0 ≤ (x16_1 : Int) := pq0
      have q13 : x16_1 < (l0_1.length : Int) := pq0
      obtain ⟨ad13, A13_1, c13_1, A13_2, c13_2, e13, hx13_0, hx13_1, hx13_2, hl13_1, hi13_1, hl13_2, hi13_2⟩ := at_T59 HR0_1.out x16_1 p13 q13
      cases e13
      replace hx13_0 := hxb hx13_0; replace hx13_1 := hxb hx13_1; replace hx13_2 := hxb hx13_2; have HR13_1 := Aside0.mk hi13_1; have HC13_1 := Aside0.mk hl13_1; clear hi13_1 hl13_1; have HR13_2 := Aside0.mk hi13_2; have HC13_2 := Aside0.mk hl13_2; clear hi13_2 hl13_2; replace p13 := eq_true p13; replace q13 := eq_true q13
      go_wp2_with (first | (refine bxe 6 #[.int .i64 0, .slice none 0 0, .slice none 0 0] 59 ?_; intro gb14 hg w15 hbox hb; have BK14 := Aside0.mk (hbox); have GW14 := Aside0.mk (gwe hg : w.heap.size ≤ _); have GE14 := GW14; have NB11_14 := Aside0.mk (nbl hg BK11); have NB14_11 := Aside0.mk (nbg hg BK11); replace BK11 := kb BK11 hb; replace HB := hbs hb; clear hb hbox hg; have hnb16 := NB14_11.out; have hnc16 := NB11_14.out; obtain ⟨_, _, _, _, _, _⟩ := box3 BK14))
      go_roundg k1
      case measure => have := HK1.out; omega
      case rel => exact ⟨(x3_1), (wrap64 (x16_1 + 1)), rfx, rfx, H', ⟨by have := HK1.out; omega⟩, ⟨bk⟩, ⟨bels⟩⟩
    ·rw [if_neg c8] at H
     have c8b0 := decide_eq_false c8
     clear c8
     have H' := Aside0.mk H
     clear H; obtain ⟨_, _, _, _, _, _, _, _, _, _⟩ := box5 BK11
     go_wp2
     go_loopg [4, 30] k1 (fun kq v4 v30 w' => ∃ (x4_2 : Int) (x30_2 : Int), v4 = .int .i64 x4_2 ∧ v30 = .int .i64 x30_2 ∧ Aside0 (impl_FormatBlock.l1 kq x3_1 x4_2 l0_2 (l0_2.length : Int) x30_2 l0_0 l0_1 l0_2 a0_3 a0_4 = some r) ∧ Aside0 (kq ≤ k1) ∧ Aside0 (w'.heap[gb11]? = some (.cells #[(.slice A0_0 l0_0.length c0_0), (.slice A0_1 l0_1.length c0_1), (.slice A0_2 l0_2.length c0_2), .int .i64 a0_3, .int .i64 a0_4] 33 (0, 0))) ∧ Aside0 (Below w.heap.size w w'))
     case atStart => exact ⟨(0), (0), rfx, rfx, H', ⟨Nat.le_refl _⟩, ⟨bk⟩, ⟨bels⟩⟩
     case round =>
      clear H'
      try clear c1
      try clear p1
      try clear q1
      try clear hx1
      try clear p2
      try clear c3
      try clear p6
      try clear c8
      try clear c8b0
      try clear c9
      try clear c9b0
      try clear c10
      try clear c10b0
      try clear c11
      try clear c11b0
      try clear c11b1
      try clear c11b2
      try clear c13
      try clear p13
      try clear q13
      try clear hx13
      try clear c16
      try clear hx13_0
      try clear hx13_1
      try clear hx13_2
      try clear p13
      try clear p2
      try clear q13
      obtain ⟨x4_2, x30_2, rfl, rfl, HA, HK2, BK11, HB⟩ := hrel
      cases gk with
      | zero => exact absurd HA.out (by simp [impl_FormatBlock.l1])
      | succ k2 =>
       have H := HA.out; clear HA
       simp only [impl_FormatBlock.l1] at H
       by_cases c19 : x30_2 < (l0_2.length : Int)
       ·rw [if_pos c19] at H
        have c19b0 := decide_eq_true c19
        clear c19
        obtain ⟨c20, H⟩ := ifS H
        have c20b0 := decide_eq_true c20
        clear c20
        obtain ⟨c21, H⟩ := ifS H
        have c21b0 := decide_eq_true c21
        clear c21
        have H' := Aside0.mk H
        clear H
        have p15 : 0 ≤ (x30_2 : Int) := pq0
        have q15 : x30_2 < (l0_2.length : Int) := pq0
        obtain ⟨ad15, e15, hx15_0⟩ := Kd.at_int HR0_2.out x30_2 p15 q15
        cases e15
        replace hx15_0 := hxb hx15_0; replace p15 := eq_true p15; replace q15 := eq_true q15
        go_wp2
        go_roundg k2
        case measure => have := HK1.out; have := HK2.out; omega
        case rel => exact ⟨(wrap64 (x4_2 + (rd l0_2 x30_2))), (wrap64 (x30_2 + 1)), rfx, rfx, H', ⟨by have := HK1.out; have := HK2.out; omega⟩, ⟨bk⟩, ⟨bels⟩⟩
       ·rw [if_neg c19] at H
        have c19b0 := decide_eq_false c19
        clear c19; have HC22 := Aside0.mk H; clear H
        go_upto_block 4 with (fail)
        go_cut [9] (fun v9 wc => ∃ (kq : Nat) (x9_21 : ByteArray), v9 = .string x9_21 ∧ Aside0 (impl_FormatBlock.j2 kq x3_1 x4_2 x9_21 l0_0 l0_1 l0_2 a0_3 a0_4 = some r) ∧ Aside0 (kq ≤ k2) ∧ Aside0 (wc.heap[gb11]? = some (.cells #[(.slice A0_0 l0_0.length c0_0), (.slice A0_1 l0_1.length c0_1), (.slice A0_2 l0_2.length c0_2), .int .i64 a0_3, .int .i64 a0_4] 33 (0, 0))) ∧ Aside0 (Below w.heap.size w wc))
        case first =>
         have H := HC22.out; clear HC22; obtain ⟨t16, A23, H⟩ := bnd H; (try dsimp only at H)
         by_cases c24 : t16 = true
         ·subst c24; rw [if_pos rfl] at H
          have H' := Aside0.mk H
          clear H; obtain ⟨_, _, _, _, _, _, _, _, _, _⟩ := box5 BK11
          go_wp2_with (first | (refine gL 36 (some 40) Tryz.func36 #[.agg #[.slice A0_0 l0_0.length c0_0, .slice A0_1 l0_1.length c0_1, .slice A0_2 l0_2.length c0_2, .int .i64 a0_3, .int .i64 a0_4]] ?_; refine (impl_Block_ended.calls k2 _ _ l0_0 _ _ l0_1 _ _ l0_2 a0_3 a0_4 true _ (cb HR0_0) HC0_0.out (cb HR0_1) HC0_1.out (cb HR0_2) HC0_2.out A23.out).mono ?_; rintro e w26 ⟨rfl, hb⟩; refine ⟨_, rfl, ?_⟩; replace BK11 := kb BK11 hb; replace HB := hbs hb; clear hb))
          go_meet
          case rel => exact ⟨_, ((⟨#[100, 111, 110, 101]⟩ : ByteArray)), rfx, H', ⟨by have := HK1.out; have := HK2.out; first | omega | exact Nat.le_refl _⟩, ⟨bk⟩, ⟨bels⟩⟩
         ·replace c24 := Bool.eq_false_iff.mpr c24; subst c24; rw [if_neg (by decide)] at H; obtain ⟨t17, A27, H⟩ := bnd H; (try dsimp only at H)
          by_cases c28 : t17 = true
          ·subst c28; rw [if_pos rfl] at H; obtain ⟨t18, A29, H⟩ := bnd H; (try dsimp only at H)
           obtain ⟨c30, H⟩ := ifS H; have c30b0 := eq_true c30
           have c30b1 := decide_eq_true c30
           try have c30b2 : (9223372036854775807 < 6 + t18.size) = False := eq_false (Nat.not_lt.2 c30)
           have H' := Aside0.mk H
           clear H; obtain ⟨_, _, _, _, _, _, _, _, _, _⟩ := box5 BK11
           go_wp2_with (first | (refine gL 36 (some 40) Tryz.func36 #[.agg #[.slice A0_0 l0_0.length c0_0, .slice A0_1 l0_1.length c0_1, .slice A0_2 l0_2.length c0_2, .int .i64 a0_3, .int .i64 a0_4]] ?_; refine (impl_Block_ended.calls k2 _ _ l0_0 _ _ l0_1 _ _ l0_2 a0_3 a0_4 false _ (cb HR0_0) HC0_0.out (cb HR0_1) HC0_1.out (cb HR0_2) HC0_2.out A23.out).mono ?_; rintro e w32 ⟨rfl, hb⟩; refine ⟨_, rfl, ?_⟩; replace BK11 := kb BK11 hb; replace HB := hbs hb; clear hb; obtain ⟨_, _, _, _, _, _, _, _, _, _⟩ := box5 BK11) | (refine gL 19 (some 43) Tryz.func19 #[.agg #[.slice A0_0 l0_0.length c0_0, .slice A0_1 l0_1.length c0_1, .slice A0_2 l0_2.length c0_2, .int .i64 a0_3, .int .i64 a0_4]] ?_; refine (impl_IsStuck.calls k2 _ _ l0_0 _ _ l0_1 _ _ l0_2 a0_3 a0_4 true _ (cb HR0_0) HC0_0.out (cb HR0_1) HC0_1.out (cb HR0_2) HC0_2.out A27.out).mono ?_; rintro e w34 ⟨rfl, hb⟩; refine ⟨_, rfl, ?_⟩; replace BK11 := kb BK11 hb; replace HB := hbs hb; clear hb; obtain ⟨_, _, _, _, _, _, _, _, _, _⟩ := box5 BK11) | (refine gL 37 (some 45) Tryz.func37 #[.agg #[.slice A0_0 l0_0.length c0_0, .slice A0_1 l0_1.length c0_1, .slice A0_2 l0_2.length c0_2, .int .i64 a0_3, .int .i64 a0_4]] ?_; refine (impl_StuckReason.calls k2 _ _ l0_0 _ _ l0_1 _ _ l0_2 a0_3 a0_4 t18 _ (cb HR0_0) HC0_0.out (cb HR0_1) HC0_1.out (cb HR0_2) HC0_2.out A29.out).mono ?_; rintro e w36 ⟨rfl, hb⟩; refine ⟨_, rfl, ?_⟩; replace BK11 := kb BK11 hb; replace HB := hbs hb; clear hb))
           go_meet
           case rel => exact ⟨_, ((⟨#[115, 116, 117, 99, 107, 32]⟩ : ByteArray) ++ t18), rfx, H', ⟨by have := HK1.out; have := HK2.out; first | omega | exact Nat.le_refl _⟩, ⟨bk⟩, ⟨bels⟩⟩
           all_goals ((try simp only [ByteArray.size_append] at c30 ⊢); omega)
          ·replace c28 := Bool.eq_false_iff.mpr c28; subst c28; rw [if_neg (by decide)] at H
           have H' := Aside0.mk H
           clear H; obtain ⟨_, _, _, _, _, _, _, _, _, _⟩ := box5 BK11
           go_wp2_with (first | (refine gL 36 (some 40) Tryz.func36 #[.agg #[.slice A0_0 l0_0.length c0_0, .slice A0_1 l0_1.length c0_1, .slice A0_2 l0_2.length c0_2, .int .i64 a0_3, .int .i64 a0_4]] ?_; refine (impl_Block_ended.calls k2 _ _ l0_0 _ _ l0_1 _ _ l0_2 a0_3 a0_4 false _ (cb HR0_0) HC0_0.out (cb HR0_1) HC0_1.out (cb HR0_2) HC0_2.out A23.out).mono ?_; rintro e w38 ⟨rfl, hb⟩; refine ⟨_, rfl, ?_⟩; replace BK11 := kb BK11 hb; replace HB := hbs hb; clear hb; obtain ⟨_, _, _, _, _, _, _, _, _, _⟩ := box5 BK11) | (refine gL 19 (some 43) Tryz.func19 #[.agg #[.slice A0_0 l0_0.length c0_0, .slice A0_1 l0_1.length c0_1, .slice A0_2 l0_2.length c0_2, .int .i64 a0_3, .int .i64 a0_4]] ?_; refine (impl_IsStuck.calls k2 _ _ l0_0 _ _ l0_1 _ _ l0_2 a0_3 a0_4 false _ (cb HR0_0) HC0_0.out (cb HR0_1) HC0_1.out (cb HR0_2) HC0_2.out A27.out).mono ?_; rintro e w40 ⟨rfl, hb⟩; refine ⟨_, rfl, ?_⟩; replace BK11 := kb BK11 hb; replace HB := hbs hb; clear hb))
           go_meet
           case rel => exact ⟨_, ((⟨#[114, 117, 110, 110, 105, 110, 103]⟩ : ByteArray)), rfx, H', ⟨by have := HK1.out; have := HK2.out; first | omega | exact Nat.le_refl _⟩, ⟨bk⟩, ⟨bels⟩⟩
        case rest =>
         clear HC22
         try clear c1
         try clear p1
         try clear q1
         try clear hx1
         try clear c2
         try clear p2
         try clear c3
         try clear p6
         try clear c8
         try clear c8b0
         try clear c9
         try clear c9b0
         try clear c10
         try clear c10b0
         try clear c11
         try clear c11b0
         try clear c11b1
         try clear c11b2
         try clear c13
         try clear p13
         try clear q13
         try clear hx13
         try clear p15
         try clear q15
         try clear hx15
         try clear c16
         try clear c19
         try clear c19b0
         try clear c20
         try clear c20b0
         try clear c21
         try clear c21b0
         try clear c24
         try clear c28
         try clear c30
         try clear c30b0
         try clear c30b1
         try clear c30b2
         try clear c35
         try clear c36
         try clear c37
         try clear hx13_0
         try clear hx13_1
         try clear hx13_2
         try clear hx15_0
         try clear p1
         try clear p13
         try clear p15
         try clear p2
         try clear p6
         try clear q1
         try clear q13
         try clear q15
         obtain ⟨kq, x9_21, rfl, HA, HJ21, BK11, HB⟩ := hcut
         cases kq with
         | zero => exact absurd HA.out (by simp [impl_FormatBlock.j2])
         | succ kj21 =>
          have H := HA.out; clear HA
          simp only [impl_FormatBlock.j2] at H
          obtain ⟨t19, A41, H⟩ := bnd H; (try dsimp only at H)
          obtain ⟨c42, H⟩ := ifS H; have c42b0 := eq_true c42
          have c42b1 := decide_eq_true c42
          try have c42b2 : (9223372036854775807 < 6 + t19.size) = False := eq_false (Nat.not_lt.2 c42)
          obtain ⟨t20, A43, H⟩ := bnd H; (try dsimp only at H)
          obtain ⟨c44, H⟩ := ifS H; have c44b0 := eq_true c44
          have c44b1 := decide_eq_true c44
          try have c44b2 : (9223372036854775807 < 6 + t20.size) = False := eq_false (Nat.not_lt.2 c44)
          obtain ⟨t21, A45, H⟩ := bnd H; (try dsimp only at H)
          obtain ⟨c46, H⟩ := ifS H; have c46b0 := eq_true c46
          have c46b1 := decide_eq_true c46
          try have c46b2 : (9223372036854775807 < 8 + t21.size) = False := eq_false (Nat.not_lt.2 c46)
          obtain ⟨t22, A47, H⟩ := bnd H; (try dsimp only at H)
          obtain ⟨c48, H⟩ := ifS H; have c48b0 := eq_true c48
          have c48b1 := decide_eq_true c48
          try have c48b2 : (9223372036854775807 < 6 + t22.size) = False := eq_false (Nat.not_lt.2 c48)
          obtain ⟨t23, A49, H⟩ := bnd H; (try dsimp only at H); obtain ⟨t24, A50, H⟩ := bnd H; (try dsimp only at H)
          obtain ⟨c51, H⟩ := ifS H; have c51b0 := eq_true c51
          have c51b1 := decide_eq_true c51
          try have c51b2 : (9223372036854775807 < 4 + t24.size) = False := eq_false (Nat.not_lt.2 c51)
          obtain ⟨y25, hy25⟩ := exE (α := List ByteArray) (([(⟨#[119, 97, 114, 112, 115, 32]⟩ : ByteArray) ++ t19, (⟨#[101, 110, 100, 101, 100, 32]⟩ : ByteArray) ++ t20, (⟨#[119, 97, 105, 116, 105, 110, 103, 32]⟩ : ByteArray) ++ t21, (⟨#[112, 104, 97, 115, 101, 32]⟩ : ByteArray) ++ t22, (⟨#[115, 117, 109, 32]⟩ : ByteArray) ++ t24, x9_21] : List ByteArray)); (first | with_reducible replace H := nmZ hy25 H | rw [← hy25] at H); (try dsimp only at H); have Ny25 := Aside0.mk hy25; clear hy25; obtain rfl := oI H
          try go_wp2
          replace BK11 := Aside0.mk (blk_drew BK11.out); replace HB := Aside0.mk (below_drew1 HB.out)
          refine start_ (n := 23) (S := fun w' => w'.cell? ⟨gb11, 0, none⟩ = some (.slice A0_0 l0_0.length c0_0) ∧ w'.cell? ⟨gb11, 1, none⟩ = some (.slice A0_1 l0_1.length c0_1) ∧ w'.cell? ⟨gb11, 2, none⟩ = some (.slice A0_2 l0_2.length c0_2) ∧ w'.cell? ⟨gb11, 3, none⟩ = some (.int .i64 a0_3) ∧ w'.cell? ⟨gb11, 4, none⟩ = some (.int .i64 a0_4)) (ds := []) _ (by kernel_rfl) rfl rfl ⟨bz BK11 0, bz BK11 1, bz BK11 2, bz BK11 3, bz BK11 4⟩ (fun hHeld => ?_); refine with_tabW impl_FormatBlock.tab20 impl_FormatBlock.bits20 (fun HT_ HW_ => ?_)
          generalize wc.drew = w52 at BK11 HB hHeld ⊢; refine pm 0 47 ?_; refine pm 5 52 ?_; refine pm 8 55 ?_; refine pm 12 59 ?_; refine pm 16 63 ?_; refine pm 20 67 ?_; refine tm5 1 48 ?_; refine pm 2 49 ?_; refine tm5 9 56 ?_; refine tm5 13 60 ?_; refine om 3 50 (fun K hK => ?_); refine goes_ Tryz.func17 (by kernel_rfl) rfl #[.int .i64 (l0_1.length : Int)] (by rfl) rfl rfl slq ?_; (with_reducible refine (impl_FormatInt.calls (l0_1.length : Int) t19 _ A41.out).mono ?_); rintro e w53 ⟨rfl, hb⟩; refine ⟨_, rfl, ?_⟩; replace BK11 := kb BK11 hb; replace HB := hbs hb; clear hb; refine hK.out _ _ hd (fun hHeld => ?_); clear hK K; refine nm 50 ?_; refine pm 4 51 ?_; refine om 6 53 (fun K hK => ?_); refine goes_ Tryz.func17 (by kernel_rfl) rfl #[.int .i64 x3_1] (by rfl) rfl rfl slq ?_; (with_reducible refine (impl_FormatInt.calls x3_1 t20 _ A43.out).mono ?_); rintro e w54 ⟨rfl, hb⟩; refine ⟨_, rfl, ?_⟩; replace BK11 := kb BK11 hb; replace HB := hbs hb; clear hb; refine hK.out _ _ hd (fun hHeld => ?_); clear hK K; refine nm 53 ?_; refine pm 7 54 ?_; refine om 10 57 (fun K hK => ?_); refine goes_ Tryz.func17 (by kernel_rfl) rfl #[.int .i64 a0_3] (by rfl) rfl rfl slq ?_; (with_reducible refine (impl_FormatInt.calls a0_3 t21 _ A45.out).mono ?_); rintro e w55 ⟨rfl, hb⟩; refine ⟨_, rfl, ?_⟩; replace BK11 := kb BK11 hb; replace HB := hbs hb; clear hb; refine hK.out _ _ hd (fun hHeld => ?_); clear hK K; refine nm 57 ?_; refine pm 11 58 ?_; refine om 14 61 (fun K hK => ?_); refine goes_ Tryz.func17 (by kernel_rfl) rfl #[.int .i64 a0_4] (by rfl) rfl rfl slq ?_; (with_reducible refine (impl_FormatInt.calls a0_4 t22 _ A47.out).mono ?_); rintro e w56 ⟨rfl, hb⟩; refine ⟨_, rfl, ?_⟩; replace BK11 := kb BK11 hb; replace HB := hbs hb; clear hb; refine hK.out _ _ hd (fun hHeld => ?_); clear hK K; refine nm 61 ?_; refine pm 15 62 ?_; refine om 17 64 (fun K hK => ?_); refine goes_ Tryz.func38 (by kernel_rfl) rfl #[.int .i64 x4_2] (by rfl) rfl rfl slq ?_; (with_reducible refine (impl_WrapWord.calls x4_2 t23 _ A49.out).mono ?_); rintro e w' ⟨rfl, ⟨nd, rfl⟩⟩; refine ⟨_, rfl, ?_⟩; refine hK.out _ _ hd (fun hHeld => ?_); clear hK K; refine nm 64 ?_; refine om 18 65 (fun K hK => ?_); refine goes_ Tryz.func17 (by kernel_rfl) rfl #[.int .i64 t23] (by rfl) rfl rfl slq ?_
          (with_reducible refine (impl_FormatInt.calls t23 t24 _ A50.out).mono ?_); rintro e w57 ⟨rfl, hb⟩; refine ⟨_, rfl, ?_⟩; replace BK11 := kb BK11 hb; replace HB := hbs hb; clear hb; refine hK.out _ _ hd (fun hHeld => ?_); clear hK K; refine nm 65 ?_; refine pm 19 66 ?_; refine om 21 68 (fun K hK => ?_)
          refine Kd.R_lit_step Kd.string _ 9 ?hg (N := 68) ?hd (xs := ([(⟨#[119, 97, 114, 112, 115, 32]⟩ : ByteArray) ++ t19, (⟨#[101, 110, 100, 101, 100, 32]⟩ : ByteArray) ++ t20, (⟨#[119, 97, 105, 116, 105, 110, 103, 32]⟩ : ByteArray) ++ t21, (⟨#[112, 104, 97, 115, 101, 32]⟩ : ByteArray) ++ t22, (⟨#[115, 117, 109, 32]⟩ : ByteArray) ++ t24, x9_21] : List ByteArray)) (inner := [.string ((⟨#[119, 97, 114, 112, 115, 32]⟩ : ByteArray) ++ t19), .string ((⟨#[101, 110, 100, 101, 100, 32]⟩ : ByteArray) ++ t20), .string ((⟨#[119, 97, 105, 116, 105, 110, 103, 32]⟩ : ByteArray) ++ t21), .string ((⟨#[112, 104, 97, 115, 101, 32]⟩ : ByteArray) ++ t22), .string ((⟨#[115, 117, 109, 32]⟩ : ByteArray) ++ t24), .string x9_21]) (ok := fun _ => True) (okp := fun _ => True) ?hr ?hp (fun _ hk => hk) trivial (Below.refl _ _) (Nat.le_refl _) (by simp) ?_; (case hd => rfl); (case hg => rfl); (case hr => exact gs); (case hp => exact (Reps.one (show Kd.M Kd.string _ _ _ ((⟨#[119, 97, 114, 112, 115, 32]⟩ : ByteArray) ++ t19) [.string ((⟨#[119, 97, 114, 112, 115, 32]⟩ : ByteArray) ++ t19)] from rfl) (Reps.one (show Kd.M Kd.string _ _ _ ((⟨#[101, 110, 100, 101, 100, 32]⟩ : ByteArray) ++ t20) [.string ((⟨#[101, 110, 100, 101, 100, 32]⟩ : ByteArray) ++ t20)] from rfl) (Reps.one (show Kd.M Kd.string _ _ _ ((⟨#[119, 97, 105, 116, 105, 110, 103, 32]⟩ : ByteArray) ++ t21) [.string ((⟨#[119, 97, 105, 116, 105, 110, 103, 32]⟩ : ByteArray) ++ t21)] from rfl) (Reps.one (show Kd.M Kd.string _ _ _ ((⟨#[112, 104, 97, 115, 101, 32]⟩ : ByteArray) ++ t22) [.string ((⟨#[112, 104, 97, 115, 101, 32]⟩ : ByteArray) ++ t22)] from rfl) (Reps.one (show Kd.M Kd.string _ _ _ ((⟨#[115, 117, 109, 32]⟩ : ByteArray) ++ t24) [.string ((⟨#[115, 117, 109, 32]⟩ : ByteArray) ++ t24)] from rfl) (Reps.one (show Kd.M Kd.string _ _ _ x9_21 [.string x9_21] from rfl) (Reps.none _ _))))))))
          intro v26 w58 ho59 hb hg_ hnew_
          clear hg_ hnew_
          (first | rw [← Ny25.out] at ho59 | (simp only [Int.reduceToNat] at ho59; rw [← Ny25.out] at ho59))
          have HO27 := Aside0.mk (Kd.R_lower ho59 (below_size bels)); replace BK11 := kb BK11 hb; replace HB := hbs hb; clear hb ho59; refine hK.out _ _ hd (fun hHeld => ?_); clear hK K; refine nm 68 ?_; refine pm 22 2 ?_
          refine done_ (done_of HT_.out (by kernel_rfl)) ?_
          try go_wp2
          go_ret
          exact ⟨_, rfe, by (with_reducible repeat (first | apply Kd.R_alloc | apply Kd.R_drewN | apply Kd.R_drew)); exact HO27.out, bels⟩
 ·replace c3 := Bool.eq_false_iff.mpr c3; subst c3; rw [if_neg (by decide)] at H; obtain rfl := oI H
  go_enter Tryz.func9, Tryz.ntmps9
  go_wp2_with (first | (refine bxe 1 #[.slice A0_0 l0_0.length c0_0, .slice A0_1 l0_1.length c0_1, .slice A0_2 l0_2.length c0_2, .int .i64 a0_3, .int .i64 a0_4] 33 ?_; intro gb11 hg w60 hbox hb; have BK11 := Aside0.mk (hbox); have GW11 := Aside0.mk (gwe hg : w.heap.size ≤ _); have GE11 := GW11; replace HB := hbs hb; clear hb hbox hg; obtain ⟨_, _, _, _, _, _, _, _, _, _⟩ := box5 BK11) | (refine gL 35 (some 11) Tryz.func35 #[.agg #[.slice A0_0 l0_0.length c0_0, .slice A0_1 l0_1.length c0_1, .slice A0_2 l0_2.length c0_2, .int .i64 a0_3, .int .i64 a0_4]] ?_; refine (impl_BlockOk.calls k _ _ l0_0 _ _ l0_1 _ _ l0_2 a0_3 a0_4 false _ (cb HR0_0) HC0_0.out (cb HR0_1) HC0_1.out (cb HR0_2) HC0_2.out A2.out).mono ?_; rintro e w62 ⟨rfl, hb⟩; refine ⟨_, rfl, ?_⟩; replace BK11 := kb BK11 hb; replace HB := hbs hb; clear hb))
  go_ret
  exact ⟨_, rfe, by first | exact Kd.R_nil _ _ _ _ _ | exact Kd.N_nil _ _ _ _ _ | exact Kd.V_nil _ _ _ _ _ | exact Kd.Q_nil _ _ _ _ _ | exact Kd.S_nil _ _ _ _ _, bels⟩

/-! ### laws_eqStringS: function 10 -/
def laws_eqStringS.l0 : Nat → List ByteArray → List ByteArray → Int → Option (Bool)
 | 0, _, _, _ => none
 | k + 1, x0, x1, x5 => if x5 < (x0.length : Int) then (if 0 ≤ x5 then (if x5 < (x1.length : Int) then (if (rdOf ByteArray.empty x0 x5).toList = (rdOf ByteArray.empty x1 x5).toList then (laws_eqStringS.l0 k x0 x1 (wrap64 (x5 + 1))) else (some false)) else (none)) else (none)) else (some true)
def laws_eqStringS.f (k : Nat) (l0 : List ByteArray) (l1 : List ByteArray) : Option (Bool) := if (l0.length : Int) = (l1.length : Int) then (laws_eqStringS.l0 k l0 l1 0) else (some false)
set_option maxHeartbeats 8000000 in
set_option maxRecDepth 100000 in
theorem laws_eqStringS.calls (k : Nat) (A0 : Option Addr) (c0 : Nat) (l0 : List ByteArray) (A1 : Option Addr) (c1 : Nat) (l1 : List ByteArray) (r : Bool) (w : World) (hr0 : Kd.C Kd.string w A0 l0.length l0) (hc0 : l0.length ≤ c0) (hr1 : Kd.C Kd.string w A1 l1.length l1) (hc1 : l1.length ≤ c1) (h : laws_eqStringS.f k l0 l1 = some r) :
  Calls Tryz.prog 10 #[.slice A0 l0.length c0, .slice A1 l1.length c1] w fun e w' => e = .returned (.bool r) ∧ Drawn0 w w' := by
 have HR0 := Aside0.mk hr0; have HC0 := Aside0.mk hc0; clear hr0 hc0; have HR1 := Aside0.mk hr1; have HC1 := Aside0.mk hc1; clear hr1 hc1
 have H : (if (l0.length : Int) = (l1.length : Int) then (laws_eqStringS.l0 k l0 l1 0) else (some false)) = some r := h
 clear h
 by_cases c3 : (l0.length : Int) = (l1.length : Int)
 ·rw [if_pos c3] at H
  have c3b0 : ((l0.length : Int) == (l1.length : Int)) = true := beq_iff_eq.mpr c3
  have c3b1 : ((l0.length : Int) != (l1.length : Int)) = false := bne_eq_false_iff_eq.mpr c3
  have c3b2 : (l0.length == l1.length) = true := by first | simpa using c3 | (simp at c3 ⊢; omega)
  clear c3
  have H' := Aside0.mk H
  clear H
  go_enter Tryz.func10, Tryz.ntmps10
  go_wp2
  repeat (go_quiet (fail); try go_wp2)
  go_loopg [5] k (fun kq v5 w' => ∃ (x5_1 : Int), v5 = .int .i64 x5_1 ∧ Aside0 (laws_eqStringS.l0 kq l0 l1 x5_1 = some r) ∧ Aside0 (kq ≤ k) ∧ Drawn0 w w')
  case atStart => exact ⟨(0), rfx, H', ⟨Nat.le_refl _⟩, by repeat (first | exact Drawn0.refl _ | apply Drawn0.step)⟩
  case round =>
   clear H'
   try clear c1
   try clear p2
   try clear c3
   try clear c3b0
   try clear c3b1
   try clear c3b2
   obtain ⟨x5_1, rfl, HA, HK1, ⟨m1, rfl⟩⟩ := hrel
   cases gk with
   | zero => exact absurd HA.out (by simp [laws_eqStringS.l0])
   | succ k1 =>
    have H := HA.out; clear HA
    simp only [laws_eqStringS.l0] at H
    by_cases c4 : x5_1 < (l0.length : Int)
    ·rw [if_pos c4] at H
     have c4b0 := decide_eq_true c4
     clear c4
     obtain ⟨c5, H⟩ := ifS H
     have c5b0 := decide_eq_true c5
     clear c5
     obtain ⟨c6, H⟩ := ifS H
     have c6b0 := decide_eq_true c6
     clear c6
     by_cases c7 : (rdOf ByteArray.empty l0 x5_1).toList = (rdOf ByteArray.empty l1 x5_1).toList
     ·rw [if_pos c7] at H
      have c7b0 : ((rdOf ByteArray.empty l0 x5_1).toList == (rdOf ByteArray.empty l1 x5_1).toList) = true := beq_iff_eq.mpr c7
      have c7b1 : ((rdOf ByteArray.empty l0 x5_1).toList != (rdOf ByteArray.empty l1 x5_1).toList) = false := bne_eq_false_iff_eq.mpr c7
      clear c7
      have H' := Aside0.mk H
      clear H
      obtain ⟨p11, q11, ad11, e11, hx11_0⟩ := pqa (fun (p_ : 0 ≤ (x5_1 : Int)) (q_ : x5_1 < (l0.length : Int)) => Kd.at_string HR0.out x5_1 p_ q_); cases e11
      obtain ⟨p12, q12, ad12, e12, hx12_0⟩ := pqa (fun (p_ : 0 ≤ (x5_1 : Int)) (q_ : x5_1 < (l1.length : Int)) => Kd.at_string HR1.out x5_1 p_ q_); cases e12
      go_wp2
      repeat (go_quiet (fail); try go_wp2)
      go_roundg k1
      case measure => have := HK1.out; omega
      case rel => exact ⟨(wrap64 (x5_1 + 1)), rfx, H', ⟨by have := HK1.out; omega⟩, by repeat (first | exact Drawn0.refl _ | apply Drawn0.step)⟩
     ·rw [if_neg c7] at H
      have c7b0 : ((rdOf ByteArray.empty l0 x5_1).toList == (rdOf ByteArray.empty l1 x5_1).toList) = false := beq_eq_false_iff_ne.mpr c7
      have c7b1 : ((rdOf ByteArray.empty l0 x5_1).toList != (rdOf ByteArray.empty l1 x5_1).toList) = true := bne_iff_ne.mpr c7
      obtain rfl := oI H
      obtain ⟨p11, q11, ad11, e11, hx11_0⟩ := pqa (fun (p_ : 0 ≤ (x5_1 : Int)) (q_ : x5_1 < (l0.length : Int)) => Kd.at_string HR0.out x5_1 p_ q_); cases e11
      obtain ⟨p12, q12, ad12, e12, hx12_0⟩ := pqa (fun (p_ : 0 ≤ (x5_1 : Int)) (q_ : x5_1 < (l1.length : Int)) => Kd.at_string HR1.out x5_1 p_ q_); cases e12
      go_wp2
      repeat (go_quiet (fail); try go_wp2)
      go_ret
      exact ⟨by first | rfl | (simp; done) | (simp [*]; done), by repeat (first | exact Drawn0.refl _ | apply Drawn0.step)⟩
    ·rw [if_neg c4] at H
     have c4b0 := decide_eq_false c4
     clear c4; obtain rfl := oI H
     go_wp2
     repeat (go_quiet (fail); try go_wp2)
     go_ret
     exact ⟨by first | rfl | (simp; done) | (simp [*]; done), by repeat (first | exact Drawn0.refl _ | apply Drawn0.step)⟩
 ·rw [if_neg c3] at H
  have c3b0 : ((l0.length : Int) == (l1.length : Int)) = false := beq_eq_false_iff_ne.mpr c3
  have c3b1 : ((l0.length : Int) != (l1.length : Int)) = true := bne_iff_ne.mpr c3
  have c3b2 : (l0.length == l1.length) = false := by first | simpa using c3 | (simp at c3 ⊢; omega)
  obtain rfl := oI H
  go_enter Tryz.func10, Tryz.ntmps10
  go_wp2
  repeat (go_quiet (fail); try go_wp2)
  go_ret
  exact ⟨by first | rfl | (simp; done) | (simp [*]; done), by repeat (first | exact Drawn0.refl _ | apply Drawn0.step)⟩

/-! ### laws_eqIns: function 75 -/
def laws_eqIns.f (a0_0 : Int) (a0_1 : Int) (a0_2 : Int) (a0_3 : Int) (a1_0 : Int) (a1_1 : Int) (a1_2 : Int) (a1_3 : Int) : Option (Bool) := if a0_0 = a1_0 then (if a0_1 = a1_1 then (if a0_2 = a1_2 then (if a0_3 = a1_3 then (some true) else (some false)) else (some false)) else (some false)) else (some false)
set_option maxHeartbeats 8000000 in
set_option maxRecDepth 100000 in
theorem laws_eqIns.calls (a0_0 : Int) (a0_1 : Int) (a0_2 : Int) (a0_3 : Int) (a1_0 : Int) (a1_1 : Int) (a1_2 : Int) (a1_3 : Int) (r : Bool) (w : World) (h : laws_eqIns.f a0_0 a0_1 a0_2 a0_3 a1_0 a1_1 a1_2 a1_3 = some r) :
  Calls Tryz.prog 75 #[.agg #[.int .i64 a0_0, .int .i64 a0_1, .int .i64 a0_2, .int .i64 a0_3], .agg #[.int .i64 a1_0, .int .i64 a1_1, .int .i64 a1_2, .int .i64 a1_3]] w fun e w' => e = .returned (.bool r) ∧ Below w.heap.size w w' := by
 have hu95 := Tryz.underlying95; have HB := Aside0.mk (Below.refl w.heap.size w)
 have H : (if a0_0 = a1_0 then (if a0_1 = a1_1 then (if a0_2 = a1_2 then (if a0_3 = a1_3 then (some true) else (some false)) else (some false)) else (some false)) else (some false)) = some r := h
 clear h
 by_cases c3 : a0_0 = a1_0
 ·rw [if_pos c3] at H
  have c3b0 : (a0_0 == a1_0) = true := beq_iff_eq.mpr c3
  have c3b1 : (a0_0 != a1_0) = false := bne_eq_false_iff_eq.mpr c3
  clear c3
  by_cases c4 : a0_1 = a1_1
  ·rw [if_pos c4] at H
   have c4b0 : (a0_1 == a1_1) = true := beq_iff_eq.mpr c4
   have c4b1 : (a0_1 != a1_1) = false := bne_eq_false_iff_eq.mpr c4
   clear c4
   by_cases c5 : a0_2 = a1_2
   ·rw [if_pos c5] at H
    have c5b0 : (a0_2 == a1_2) = true := beq_iff_eq.mpr c5
    have c5b1 : (a0_2 != a1_2) = false := bne_eq_false_iff_eq.mpr c5
    clear c5
    by_cases c6 : a0_3 = a1_3
    ·rw [if_pos c6] at H
     have c6b0 : (a0_3 == a1_3) = true := beq_iff_eq.mpr c6
     have c6b1 : (a0_3 != a1_3) = false := bne_eq_false_iff_eq.mpr c6
     clear c6; obtain rfl := oI H
     go_enter Tryz.func75, Tryz.ntmps75
     go_wp2_with (first | (refine bxe 2 #[.int .i64 a0_0, .int .i64 a0_1, .int .i64 a0_2, .int .i64 a0_3] 95 ?_; intro gb11 hg w7 hbox hb; have BK11 := Aside0.mk (hbox); have GW11 := Aside0.mk (gwe hg : w.heap.size ≤ _); have GE11 := GW11; replace HB := hbs hb; clear hb hbox hg) | (refine bxe 3 #[.int .i64 a1_0, .int .i64 a1_1, .int .i64 a1_2, .int .i64 a1_3] 95 ?_; intro gb12 hg w8 hbox hb; have BK12 := Aside0.mk (hbox); have GW12 := Aside0.mk (gwe hg : w.heap.size ≤ _); have GE12 := GW12; have NB11_12 := Aside0.mk (nbl hg BK11); have NB12_11 := Aside0.mk (nbg hg BK11); replace BK11 := kb BK11 hb; replace HB := hbs hb; clear hb hbox hg; have hnb9 := NB11_12.out; have hnc9 := NB12_11.out; obtain ⟨_, _, _, _, _, _, _, _⟩ := box4 BK11; obtain ⟨_, _, _, _, _, _, _, _⟩ := box4 BK12))
     go_ret
     exact ⟨rfe, bels⟩
    ·rw [if_neg c6] at H
     have c6b0 : (a0_3 == a1_3) = false := beq_eq_false_iff_ne.mpr c6
     have c6b1 : (a0_3 != a1_3) = true := bne_iff_ne.mpr c6
     obtain rfl := oI H
     go_enter Tryz.func75, Tryz.ntmps75
     go_wp2_with (first | (refine bxe 2 #[.int .i64 a0_0, .int .i64 a0_1, .int .i64 a0_2, .int .i64 a0_3] 95 ?_; intro gb11 hg w12 hbox hb; have BK11 := Aside0.mk (hbox); have GW11 := Aside0.mk (gwe hg : w.heap.size ≤ _); have GE11 := GW11; replace HB := hbs hb; clear hb hbox hg) | (refine bxe 3 #[.int .i64 a1_0, .int .i64 a1_1, .int .i64 a1_2, .int .i64 a1_3] 95 ?_; intro gb12 hg w13 hbox hb; have BK12 := Aside0.mk (hbox); have GW12 := Aside0.mk (gwe hg : w.heap.size ≤ _); have GE12 := GW12; have NB11_12 := Aside0.mk (nbl hg BK11); have NB12_11 := Aside0.mk (nbg hg BK11); replace BK11 := kb BK11 hb; replace HB := hbs hb; clear hb hbox hg; have hnb14 := NB11_12.out; have hnc14 := NB12_11.out; obtain ⟨_, _, _, _, _, _, _, _⟩ := box4 BK11; obtain ⟨_, _, _, _, _, _, _, _⟩ := box4 BK12))
     go_ret
     exact ⟨rfe, bels⟩
   ·rw [if_neg c5] at H
    have c5b0 : (a0_2 == a1_2) = false := beq_eq_false_iff_ne.mpr c5
    have c5b1 : (a0_2 != a1_2) = true := bne_iff_ne.mpr c5
    obtain rfl := oI H
    go_enter Tryz.func75, Tryz.ntmps75
    go_wp2_with (first | (refine bxe 2 #[.int .i64 a0_0, .int .i64 a0_1, .int .i64 a0_2, .int .i64 a0_3] 95 ?_; intro gb11 hg w17 hbox hb; have BK11 := Aside0.mk (hbox); have GW11 := Aside0.mk (gwe hg : w.heap.size ≤ _); have GE11 := GW11; replace HB := hbs hb; clear hb hbox hg) | (refine bxe 3 #[.int .i64 a1_0, .int .i64 a1_1, .int .i64 a1_2, .int .i64 a1_3] 95 ?_; intro gb12 hg w18 hbox hb; have BK12 := Aside0.mk (hbox); have GW12 := Aside0.mk (gwe hg : w.heap.size ≤ _); have GE12 := GW12; have NB11_12 := Aside0.mk (nbl hg BK11); have NB12_11 := Aside0.mk (nbg hg BK11); replace BK11 := kb BK11 hb; replace HB := hbs hb; clear hb hbox hg; have hnb19 := NB11_12.out; have hnc19 := NB12_11.out; obtain ⟨_, _, _, _, _, _, _, _⟩ := box4 BK11; obtain ⟨_, _, _, _, _, _, _, _⟩ := box4 BK12))
    go_ret
    exact ⟨rfe, bels⟩
  ·rw [if_neg c4] at H
   have c4b0 : (a0_1 == a1_1) = false := beq_eq_false_iff_ne.mpr c4
   have c4b1 : (a0_1 != a1_1) = true := bne_iff_ne.mpr c4
   obtain rfl := oI H
   go_enter Tryz.func75, Tryz.ntmps75
   go_wp2_with (first | (refine bxe 2 #[.int .i64 a0_0, .int .i64 a0_1, .int .i64 a0_2, .int .i64 a0_3] 95 ?_; intro gb11 hg w22 hbox hb; have BK11 := Aside0.mk (hbox); have GW11 := Aside0.mk (gwe hg : w.heap.size ≤ _); have GE11 := GW11; replace HB := hbs hb; clear hb hbox hg) | (refine bxe 3 #[.int .i64 a1_0, .int .i64 a1_1, .int .i64 a1_2, .int .i64 a1_3] 95 ?_; intro gb12 hg w23 hbox hb; have BK12 := Aside0.mk (hbox); have GW12 := Aside0.mk (gwe hg : w.heap.size ≤ _); have GE12 := GW12; have NB11_12 := Aside0.mk (nbl hg BK11); have NB12_11 := Aside0.mk (nbg hg BK11); replace BK11 := kb BK11 hb; replace HB := hbs hb; clear hb hbox hg; have hnb24 := NB11_12.out; have hnc24 := NB12_11.out; obtain ⟨_, _, _, _, _, _, _, _⟩ := box4 BK11; obtain ⟨_, _, _, _, _, _, _, _⟩ := box4 BK12))
   go_ret
   exact ⟨rfe, bels⟩
 ·rw [if_neg c3] at H
  have c3b0 : (a0_0 == a1_0) = false := beq_eq_false_iff_ne.mpr c3
  have c3b1 : (a0_0 != a1_0) = true := bne_iff_ne.mpr c3
  obtain rfl := oI H
  go_enter Tryz.func75, Tryz.ntmps75
  go_wp2_with (first | (refine bxe 2 #[.int .i64 a0_0, .int .i64 a0_1, .int .i64 a0_2, .int .i64 a0_3] 95 ?_; intro gb11 hg w27 hbox hb; have BK11 := Aside0.mk (hbox); have GW11 := Aside0.mk (gwe hg : w.heap.size ≤ _); have GE11 := GW11; replace HB := hbs hb; clear hb hbox hg) | (refine bxe 3 #[.int .i64 a1_0, .int .i64 a1_1, .int .i64 a1_2, .int .i64 a1_3] 95 ?_; intro gb12 hg w28 hbox hb; have BK12 := Aside0.mk (hbox); have GW12 := Aside0.mk (gwe hg : w.heap.size ≤ _); have GE12 := GW12; have NB11_12 := Aside0.mk (nbl hg BK11); have NB12_11 := Aside0.mk (nbg hg BK11); replace BK11 := kb BK11 hb; replace HB := hbs hb; clear hb hbox hg; have hnb29 := NB11_12.out; have hnc29 := NB12_11.out; obtain ⟨_, _, _, _, _, _, _, _⟩ := box4 BK11; obtain ⟨_, _, _, _, _, _, _, _⟩ := box4 BK12))
  go_ret
  exact ⟨rfe, bels⟩

/-! ### laws_eqInsS: function 39 -/
def laws_eqInsS.l0 : Nat → List (S95) → List (S95) → Int → Option (Bool)
  | 0, _, _, _ => none
  | k + 1, x0, x1, x5 => if x5 < (x0.length : Int) then (if 0 ≤ x5 then (if x5 < (x1.length : Int) then ((laws_eqIns.f ((rd_T95 x0 x5).f0) ((rd_T95 x0 x5).f1) ((rd_T95 x0 x5).f2) ((rd_T95 x0 x5).f3) ((rd_T95 x1 x5).f0) ((rd_T95 x1 x5).f1) ((rd_T95 x1 x5).f2) ((rd_T95 x1 x5).f3)).bind fun t13 => (if t13 = true then (laws_eqInsS.l0 k x0 x1 (wrap64 (x5 + 1))) else (some false))) else (none)) else (none)) else (some true)
def laws_eqInsS.f (k : Nat) (l0 : List (S95)) (l1 : List (S95)) : Option (Bool) := if (l0.length : Int) = (l1.length : Int) then (laws_eqInsS.l0 k l0 l1 0) else (some false)
def laws_eqInsS.T6 : Bool × List (List Nat × List Nat) := (true, [([], []), ([], []), ([0, 1], [0, 1]), ([2], [2]), ([], []), ([], []), ([4, 5], [4, 5]), ([6], [6]), ([3, 7], [3, 7]), ([8], [8])])
def laws_eqInsS.B6 : List Nat := [0, 0, 3, 7, 0, 0, 48, 112, 255, 511]
theorem laws_eqInsS.tab6 : rtab .any (opsOf Tryz.f39 6) = laws_eqInsS.T6 := by kernel_rfl
theorem laws_eqInsS.bits6 : waitsOk laws_eqInsS.T6.2 laws_eqInsS.B6 = true := by kernel_rfl
set_option maxHeartbeats 8000000 in
set_option maxRecDepth 100000 in
theorem laws_eqInsS.calls (k : Nat) (A0 : Option Addr) (c0 : Nat) (l0 : List (S95)) (A1 : Option Addr) (c1 : Nat) (l1 : List (S95)) (r : Bool) (w : World) (hr0 : Kd.C k95 w A0 l0.length l0) (hc0 : l0.length ≤ c0) (hr1 : Kd.C k95 w A1 l1.length l1) (hc1 : l1.length ≤ c1) (h : laws_eqInsS.f k l0 l1 = some r) :
    Calls Tryz.prog 39 #[.slice A0 l0.length c0, .slice A1 l1.length c1] w fun e w' => e = .returned (.bool r) ∧ Below w.heap.size w w' := by
  have hu95 := Tryz.underlying95
  have HR0 := Aside0.mk hr0
  have HC0 := Aside0.mk hc0
  clear hr0 hc0
  have HR1 := Aside0.mk hr1
  have HC1 := Aside0.mk hc1
  clear hr1 hc1
  have HB := Aside0.mk (Below.refl w.heap.size w)
  have H : (if (l0.length : Int) = (l1.length : Int) then (laws_eqInsS.l0 k l0 l1 0) else (some false)) = some r := h
  clear h
  by_cases c3 : (l0.length : Int) = (l1.length : Int)
  · rw [if_pos c3] at H
    have c3b0 : ((l0.length : Int) == (l1.length : Int)) = true := beq_iff_eq.mpr c3
    have c3b1 : ((l0.length : Int) != (l1.length : Int)) = false := bne_eq_false_iff_eq.mpr c3
    have c3b2 : (l0.length == l1.length) = true := by first | simpa using c3 | (simp at c3 ⊢; omega)
    clear c3
    have H' := Aside0.mk H
    clear H
    go_enter Tryz.func39, Tryz.ntmps39
    go_wp2
    go_loopg [5] k (fun kq v5 w' => ∃ (x5_1 : Int), v5 = .int .i64 x5_1 ∧ Aside0 (laws_eqInsS.l0 kq l0 l1 x5_1 = some r) ∧ Aside0 (kq ≤ k) ∧ Aside0 (Below w.heap.size w w'))
    case atStart => exact ⟨(0), (by first | rfl | (simp; done) | (simp [*]; done)), H', ⟨Nat.le_refl _⟩, ⟨by repeat (first | (with_reducible first | exact HB.out | apply below_alloc | apply pw_below_drewN | apply below_drew1) | exact HB.out)⟩⟩
    case round =>
      clear H'
      try clear c1
      try clear p2
      try clear c3
      try clear c3b0
      try clear c3b1
      try clear c3b2
      obtain ⟨x5_1, rfl, HA, HK1, HB⟩ := hrel
      cases gk with
      | zero => exact absurd HA.out (by simp [laws_eqInsS.l0])
      | succ k1 =>
        have H := HA.out
        clear HA
        simp only [laws_eqInsS.l0] at H
        by_cases c4 : x5_1 < (l0.length : Int)
        · rw [if_pos c4] at H
          have c4b0 : decide (x5_1 < (l0.length : Int)) = true := decide_eq_true c4
          clear c4
          by_cases c5 : 0 ≤ x5_1
          · rw [if_pos c5] at H
            have c5b0 : decide (0 ≤ x5_1) = true := decide_eq_true c5
            clear c5
            by_cases c6 : x5_1 < (l1.length : Int)
            · rw [if_pos c6] at H
              have c6b0 : decide (x5_1 < (l1.length : Int)) = true := decide_eq_true c6
              clear c6
              replace H := Option.bind_eq_some_iff.mp H
              obtain ⟨t13, A70, H⟩ := H
              replace H : (if t13 = true then (laws_eqInsS.l0 k1 l0 l1 (wrap64 (x5_1 + 1))) else (some false)) = some r := H
              have A7 := Aside0.mk A70
              clear A70
              by_cases c8 : t13 = true
              · subst c8
                have H1 : (laws_eqInsS.l0 k1 l0 l1 (wrap64 (x5_1 + 1))) = some r := by rw [if_pos rfl] at H; exact H
                clear H
                have H := H1
                clear H1
                have H' := Aside0.mk H
                clear H
                try go_wp2
                have n0_ := Aside0.mk (below_drew1 HB.out)
                clear HB
                have HB := n0_
                clear n0_
                have p11 : 0 ≤ (x5_1 : Int) := of_decide_eq_true (by first | (with_reducible assumption) | assumption)
                have q11 : x5_1 < (l0.length : Int) := of_decide_eq_true (by first | (with_reducible assumption) | assumption)
                obtain ⟨ad11, e11, hx11_0, hx11_1, hx11_2, hx11_3⟩ := at_T95 HR0.out x5_1 p11 q11
                have hw11_3 := hx11_3
                have hw11_2 := hx11_2
                have hw11_1 := hx11_1
                have hw11_0 := hx11_0
                cases e11
                replace hx11_0 := (HB.out.cell (World.block_lt_of_cell? w _ hx11_0)).trans hx11_0
                replace hx11_1 := (HB.out.cell (World.block_lt_of_cell? w _ hx11_1)).trans hx11_1
                replace hx11_2 := (HB.out.cell (World.block_lt_of_cell? w _ hx11_2)).trans hx11_2
                replace hx11_3 := (HB.out.cell (World.block_lt_of_cell? w _ hx11_3)).trans hx11_3
                replace p11 := eq_true p11
                replace q11 := eq_true q11
                have p12 : 0 ≤ (x5_1 : Int) := of_decide_eq_true (by first | (with_reducible assumption) | assumption)
                have q12 : x5_1 < (l1.length : Int) := of_decide_eq_true (by first | (with_reducible assumption) | assumption)
                obtain ⟨ad12, e12, hx12_0, hx12_1, hx12_2, hx12_3⟩ := at_T95 HR1.out x5_1 p12 q12
                have hw12_3 := hx12_3
                have hw12_2 := hx12_2
                have hw12_1 := hx12_1
                have hw12_0 := hx12_0
                cases e12
                replace hx12_0 := (HB.out.cell (World.block_lt_of_cell? w _ hx12_0)).trans hx12_0
                replace hx12_1 := (HB.out.cell (World.block_lt_of_cell? w _ hx12_1)).trans hx12_1
                replace hx12_2 := (HB.out.cell (World.block_lt_of_cell? w _ hx12_2)).trans hx12_2
                replace hx12_3 := (HB.out.cell (World.block_lt_of_cell? w _ hx12_3)).trans hx12_3
                replace p12 := eq_true p12
                replace q12 := eq_true q12
                refine start_ (n := 10) (S := fun w' => w'.cell? (ad11.add ((x5_1).toNat * 4)) = some (.int .i64 ((rd_T95 l0 x5_1).f0)) ∧ w'.cell? ⟨(ad11.add ((x5_1).toNat * 4)).block, (ad11.add ((x5_1).toNat * 4)).off + 1, none⟩ = some (.int .i64 ((rd_T95 l0 x5_1).f1)) ∧ w'.cell? ⟨(ad11.add ((x5_1).toNat * 4)).block, (ad11.add ((x5_1).toNat * 4)).off + 2, none⟩ = some (.int .i64 ((rd_T95 l0 x5_1).f2)) ∧ w'.cell? ⟨(ad11.add ((x5_1).toNat * 4)).block, (ad11.add ((x5_1).toNat * 4)).off + 3, none⟩ = some (.int .i64 ((rd_T95 l0 x5_1).f3)) ∧ w'.cell? (ad12.add ((x5_1).toNat * 4)) = some (.int .i64 ((rd_T95 l1 x5_1).f0)) ∧ w'.cell? ⟨(ad12.add ((x5_1).toNat * 4)).block, (ad12.add ((x5_1).toNat * 4)).off + 1, none⟩ = some (.int .i64 ((rd_T95 l1 x5_1).f1)) ∧ w'.cell? ⟨(ad12.add ((x5_1).toNat * 4)).block, (ad12.add ((x5_1).toNat * 4)).off + 2, none⟩ = some (.int .i64 ((rd_T95 l1 x5_1).f2)) ∧ w'.cell? ⟨(ad12.add ((x5_1).toNat * 4)).block, (ad12.add ((x5_1).toNat * 4)).off + 3, none⟩ = some (.int .i64 ((rd_T95 l1 x5_1).f3))) (ds := []) #[false, false, false, false, false, false, false, false, false, false] (by kernel_rfl) rfl rfl ⟨((HB.out.cell (World.block_lt_of_cell? w _ hw11_0)).trans hw11_0), ((HB.out.cell (World.block_lt_of_cell? w _ hw11_1)).trans hw11_1), ((HB.out.cell (World.block_lt_of_cell? w _ hw11_2)).trans hw11_2), ((HB.out.cell (World.block_lt_of_cell? w _ hw11_3)).trans hw11_3), ((HB.out.cell (World.block_lt_of_cell? w _ hw12_0)).trans hw12_0), ((HB.out.cell (World.block_lt_of_cell? w _ hw12_1)).trans hw12_1), ((HB.out.cell (World.block_lt_of_cell? w _ hw12_2)).trans hw12_2), ((HB.out.cell (World.block_lt_of_cell? w _ hw12_3)).trans hw12_3)⟩ (fun hHeld => ?_); refine with_tabW laws_eqInsS.tab6 laws_eqInsS.bits6 (fun HT_ HW_ => ?_)
                generalize wr.drew = w9 at HB hx11_0 hx11_1 hx11_2 hx11_3 hx12_0 hx12_1 hx12_2 hx12_3 hHeld ⊢
                refine pure_ (i := 0) (N := some 17) (v := ?_) (a' := ?_) #[true, false, false, false, false, false, false, false, false, false] rfl rfl (any_of HT_.out (by kernel_rfl)) (fun _ _ _ h => h) (Or.inl ⟨by rfl, ?_⟩) ?_ ?_
                rotate_left
                · intro w'
                  go_simp
                  with_reducible rfl
                rotate_left
                · simp only [Act.put, List.setIfInBounds_toArray, List.set_cons_zero, List.set_cons_succ, i64_w, i32_w]
                  rfl
                refine pure_ (i := 1) (N := some 18) (v := ?_) (a' := ?_) #[true, true, false, false, false, false, false, false, false, false] rfl rfl (any_of HT_.out (by kernel_rfl)) (fun _ _ _ h => h) (Or.inl ⟨by rfl, ?_⟩) ?_ ?_
                rotate_left
                · intro w'
                  go_simp
                  with_reducible rfl
                rotate_left
                · simp only [Act.put, List.setIfInBounds_toArray, List.set_cons_zero, List.set_cons_succ, i64_w, i32_w]
                  rfl
                refine pure_ (i := 2) (N := some 19) (v := ?_) (a' := ?_) #[true, true, true, false, false, false, false, false, false, false] rfl rfl (any_of HT_.out (by kernel_rfl)) (fun _ _ _ h => h) (Or.inl ⟨by rfl, ?_⟩) ?_ ?_
                rotate_left
                · intro w'
                  go_simp
                  with_reducible rfl
                rotate_left
                · simp only [Act.put, List.setIfInBounds_toArray, List.set_cons_zero, List.set_cons_succ, i64_w, i32_w]
                  rfl
                refine pure_ (i := 4) (N := some 21) (v := ?_) (a' := ?_) #[true, true, true, false, true, false, false, false, false, false] rfl rfl (any_of HT_.out (by kernel_rfl)) (fun _ _ _ h => h) (Or.inl ⟨by rfl, ?_⟩) ?_ ?_
                rotate_left
                · intro w'
                  go_simp
                  with_reducible rfl
                rotate_left
                · simp only [Act.put, List.setIfInBounds_toArray, List.set_cons_zero, List.set_cons_succ, i64_w, i32_w]
                  rfl
                refine pure_ (i := 5) (N := some 22) (v := ?_) (a' := ?_) #[true, true, true, false, true, true, false, false, false, false] rfl rfl (any_of HT_.out (by kernel_rfl)) (fun _ _ _ h => h) (Or.inl ⟨by rfl, ?_⟩) ?_ ?_
                rotate_left
                · intro w'
                  go_simp
                  with_reducible rfl
                rotate_left
                · simp only [Act.put, List.setIfInBounds_toArray, List.set_cons_zero, List.set_cons_succ, i64_w, i32_w]
                  rfl
                refine pure_ (i := 6) (N := some 23) (v := ?_) (a' := ?_) #[true, true, true, false, true, true, true, false, false, false] rfl rfl (any_of HT_.out (by kernel_rfl)) (fun _ _ _ h => h) (Or.inl ⟨by rfl, ?_⟩) ?_ ?_
                rotate_left
                · intro w'
                  go_simp
                  with_reducible rfl
                rotate_left
                · simp only [Act.put, List.setIfInBounds_toArray, List.set_cons_zero, List.set_cons_succ, i64_w, i32_w]
                  rfl
                refine take_ (i := 3) (N := some 20) (v := ?_) (a' := ?_) #[true, true, true, true, true, true, true, false, false, false] rfl rfl (take_ofW HT_.out HW_.out (by kernel_rfl)) (fun _ _ _ h => h) (Or.inl ⟨by rfl, ?_⟩) hHeld ?_ ?_
                rotate_left
                · rintro w' ⟨s0, s1, s2, s3, s4, s5, s6, s7⟩
                  go_simp
                  with_reducible rfl
                rotate_left
                · simp only [Act.put, List.setIfInBounds_toArray, List.set_cons_zero, List.set_cons_succ, i64_w, i32_w]
                  rfl
                refine take_ (i := 7) (N := some 24) (v := ?_) (a' := ?_) #[true, true, true, true, true, true, true, true, false, false] rfl rfl (take_ofW HT_.out HW_.out (by kernel_rfl)) (fun _ _ _ h => h) (Or.inl ⟨by rfl, ?_⟩) hHeld ?_ ?_
                rotate_left
                · rintro w' ⟨s0, s1, s2, s3, s4, s5, s6, s7⟩
                  go_simp
                  with_reducible rfl
                rotate_left
                · simp only [Act.put, List.setIfInBounds_toArray, List.set_cons_zero, List.set_cons_succ, i64_w, i32_w]
                  rfl
                refine one_ (i := 8) (N := some 25) #[true, true, true, true, true, true, true, true, true, false] rfl rfl (one_of HT_.out (by kernel_rfl)) (by decide) (fun K hK => ?_)
                refine goes_ Tryz.func75 (by kernel_rfl) rfl #[.agg #[.int .i64 ((rd_T95 l0 x5_1).f0), .int .i64 ((rd_T95 l0 x5_1).f1), .int .i64 ((rd_T95 l0 x5_1).f2), .int .i64 ((rd_T95 l0 x5_1).f3)], .agg #[.int .i64 ((rd_T95 l1 x5_1).f0), .int .i64 ((rd_T95 l1 x5_1).f1), .int .i64 ((rd_T95 l1 x5_1).f2), .int .i64 ((rd_T95 l1 x5_1).f3)]] (by rfl) rfl rfl (by (try simp only [List.map_toArray, List.map_cons, List.map_nil]); first | done | rfl | (simp only [List.length_drop, List.length_take]; rfl)) ?_
                with_reducible refine (laws_eqIns.calls ((rd_T95 l0 x5_1).f0) ((rd_T95 l0 x5_1).f1) ((rd_T95 l0 x5_1).f2) ((rd_T95 l0 x5_1).f3) ((rd_T95 l1 x5_1).f0) ((rd_T95 l1 x5_1).f1) ((rd_T95 l1 x5_1).f2) ((rd_T95 l1 x5_1).f3) true _ A7.out).mono ?_
                rintro e w10 ⟨rfl, hb⟩
                refine ⟨_, rfl, ?_⟩
                have n0_ := Aside0.mk (below_step (by repeat (first | (with_reducible first | exact HB.out | apply below_alloc | apply pw_below_drewN | apply below_drew1) | exact HB.out)) hb)
                clear HB
                have HB := n0_
                clear n0_
                (try clear hb)
                (try clear hb2)
                (try clear hk)
                (try clear hi)
                refine hK.out _ _ ⟨((HB.out.cell (World.block_lt_of_cell? w _ hw11_0)).trans hw11_0), ((HB.out.cell (World.block_lt_of_cell? w _ hw11_1)).trans hw11_1), ((HB.out.cell (World.block_lt_of_cell? w _ hw11_2)).trans hw11_2), ((HB.out.cell (World.block_lt_of_cell? w _ hw11_3)).trans hw11_3), ((HB.out.cell (World.block_lt_of_cell? w _ hw12_0)).trans hw12_0), ((HB.out.cell (World.block_lt_of_cell? w _ hw12_1)).trans hw12_1), ((HB.out.cell (World.block_lt_of_cell? w _ hw12_2)).trans hw12_2), ((HB.out.cell (World.block_lt_of_cell? w _ hw12_3)).trans hw12_3)⟩ (fun hHeld => ?_)
                clear hK K
                refine norm_ (a' := ?_) ?_ ?_
                rotate_left
                · show Act.put _ (some 25) _ = _
                  simp only [Act.put, List.setIfInBounds_toArray, List.set_cons_zero, List.set_cons_succ, i64_w, i32_w]
                  rfl
                refine pure_ (i := 9) (N := some 26) (v := ?_) (a' := ?_) #[true, true, true, true, true, true, true, true, true, true] rfl rfl (any_of HT_.out (by kernel_rfl)) (fun _ _ _ h => h) (Or.inl ⟨by rfl, ?_⟩) ?_ ?_
                rotate_left
                · intro w'
                  go_simp
                  with_reducible rfl
                rotate_left
                · simp only [Act.put, List.setIfInBounds_toArray, List.set_cons_zero, List.set_cons_succ, i64_w, i32_w]
                  rfl
                refine done_ (done_of HT_.out (by kernel_rfl)) ?_
                try go_wp2
                go_roundg k1
                case measure => have := HK1.out; omega
                case rel => exact ⟨(wrap64 (x5_1 + 1)), (by first | rfl | (simp; done) | (simp [*]; done)), H', ⟨by have := HK1.out; omega⟩, ⟨by repeat (first | (with_reducible first | exact HB.out | apply below_alloc | apply pw_below_drewN | apply below_drew1) | exact HB.out)⟩⟩
              · replace c8 := Bool.eq_false_iff.mpr c8
                subst c8
                have H1 : (some false) = some r := by rw [if_neg (show ¬ (false = true) by decide)] at H; exact H
                clear H
                have H := H1
                clear H1
                obtain rfl := Option.some.inj H
                try go_wp2
                have n0_ := Aside0.mk (below_drew1 HB.out)
                clear HB
                have HB := n0_
                clear n0_
                have p11 : 0 ≤ (x5_1 : Int) := of_decide_eq_true (by first | (with_reducible assumption) | assumption)
                have q11 : x5_1 < (l0.length : Int) := of_decide_eq_true (by first | (with_reducible assumption) | assumption)
                obtain ⟨ad11, e11, hx11_0, hx11_1, hx11_2, hx11_3⟩ := at_T95 HR0.out x5_1 p11 q11
                have hw11_3 := hx11_3
                have hw11_2 := hx11_2
                have hw11_1 := hx11_1
                have hw11_0 := hx11_0
                cases e11
                replace hx11_0 := (HB.out.cell (World.block_lt_of_cell? w _ hx11_0)).trans hx11_0
                replace hx11_1 := (HB.out.cell (World.block_lt_of_cell? w _ hx11_1)).trans hx11_1
                replace hx11_2 := (HB.out.cell (World.block_lt_of_cell? w _ hx11_2)).trans hx11_2
                replace hx11_3 := (HB.out.cell (World.block_lt_of_cell? w _ hx11_3)).trans hx11_3
                replace p11 := eq_true p11
                replace q11 := eq_true q11
                have p12 : 0 ≤ (x5_1 : Int) := of_decide_eq_true (by first | (with_reducible assumption) | assumption)
                have q12 : x5_1 < (l1.length : Int) := of_decide_eq_true (by first | (with_reducible assumption) | assumption)
                obtain ⟨ad12, e12, hx12_0, hx12_1, hx12_2, hx12_3⟩ := at_T95 HR1.out x5_1 p12 q12
                have hw12_3 := hx12_3
                have hw12_2 := hx12_2
                have hw12_1 := hx12_1
                have hw12_0 := hx12_0
                cases e12
                replace hx12_0 := (HB.out.cell (World.block_lt_of_cell? w _ hx12_0)).trans hx12_0
                replace hx12_1 := (HB.out.cell (World.block_lt_of_cell? w _ hx12_1)).trans hx12_1
                replace hx12_2 := (HB.out.cell (World.block_lt_of_cell? w _ hx12_2)).trans hx12_2
                replace hx12_3 := (HB.out.cell (World.block_lt_of_cell? w _ hx12_3)).trans hx12_3
                replace p12 := eq_true p12
                replace q12 := eq_true q12
                refine start_ (n := 10) (S := fun w' => w'.cell? (ad11.add ((x5_1).toNat * 4)) = some (.int .i64 ((rd_T95 l0 x5_1).f0)) ∧ w'.cell? ⟨(ad11.add ((x5_1).toNat * 4)).block, (ad11.add ((x5_1).toNat * 4)).off + 1, none⟩ = some (.int .i64 ((rd_T95 l0 x5_1).f1)) ∧ w'.cell? ⟨(ad11.add ((x5_1).toNat * 4)).block, (ad11.add ((x5_1).toNat * 4)).off + 2, none⟩ = some (.int .i64 ((rd_T95 l0 x5_1).f2)) ∧ w'.cell? ⟨(ad11.add ((x5_1).toNat * 4)).block, (ad11.add ((x5_1).toNat * 4)).off + 3, none⟩ = some (.int .i64 ((rd_T95 l0 x5_1).f3)) ∧ w'.cell? (ad12.add ((x5_1).toNat * 4)) = some (.int .i64 ((rd_T95 l1 x5_1).f0)) ∧ w'.cell? ⟨(ad12.add ((x5_1).toNat * 4)).block, (ad12.add ((x5_1).toNat * 4)).off + 1, none⟩ = some (.int .i64 ((rd_T95 l1 x5_1).f1)) ∧ w'.cell? ⟨(ad12.add ((x5_1).toNat * 4)).block, (ad12.add ((x5_1).toNat * 4)).off + 2, none⟩ = some (.int .i64 ((rd_T95 l1 x5_1).f2)) ∧ w'.cell? ⟨(ad12.add ((x5_1).toNat * 4)).block, (ad12.add ((x5_1).toNat * 4)).off + 3, none⟩ = some (.int .i64 ((rd_T95 l1 x5_1).f3))) (ds := []) #[false, false, false, false, false, false, false, false, false, false] (by kernel_rfl) rfl rfl ⟨((HB.out.cell (World.block_lt_of_cell? w _ hw11_0)).trans hw11_0), ((HB.out.cell (World.block_lt_of_cell? w _ hw11_1)).trans hw11_1), ((HB.out.cell (World.block_lt_of_cell? w _ hw11_2)).trans hw11_2), ((HB.out.cell (World.block_lt_of_cell? w _ hw11_3)).trans hw11_3), ((HB.out.cell (World.block_lt_of_cell? w _ hw12_0)).trans hw12_0), ((HB.out.cell (World.block_lt_of_cell? w _ hw12_1)).trans hw12_1), ((HB.out.cell (World.block_lt_of_cell? w _ hw12_2)).trans hw12_2), ((HB.out.cell (World.block_lt_of_cell? w _ hw12_3)).trans hw12_3)⟩ (fun hHeld => ?_); refine with_tabW laws_eqInsS.tab6 laws_eqInsS.bits6 (fun HT_ HW_ => ?_)
                generalize wr.drew = w11 at HB hx11_0 hx11_1 hx11_2 hx11_3 hx12_0 hx12_1 hx12_2 hx12_3 hHeld ⊢
                refine pure_ (i := 0) (N := some 17) (v := ?_) (a' := ?_) #[true, false, false, false, false, false, false, false, false, false] rfl rfl (any_of HT_.out (by kernel_rfl)) (fun _ _ _ h => h) (Or.inl ⟨by rfl, ?_⟩) ?_ ?_
                rotate_left
                · intro w'
                  go_simp
                  with_reducible rfl
                rotate_left
                · simp only [Act.put, List.setIfInBounds_toArray, List.set_cons_zero, List.set_cons_succ, i64_w, i32_w]
                  rfl
                refine pure_ (i := 1) (N := some 18) (v := ?_) (a' := ?_) #[true, true, false, false, false, false, false, false, false, false] rfl rfl (any_of HT_.out (by kernel_rfl)) (fun _ _ _ h => h) (Or.inl ⟨by rfl, ?_⟩) ?_ ?_
                rotate_left
                · intro w'
                  go_simp
                  with_reducible rfl
                rotate_left
                · simp only [Act.put, List.setIfInBounds_toArray, List.set_cons_zero, List.set_cons_succ, i64_w, i32_w]
                  rfl
                refine pure_ (i := 2) (N := some 19) (v := ?_) (a' := ?_) #[true, true, true, false, false, false, false, false, false, false] rfl rfl (any_of HT_.out (by kernel_rfl)) (fun _ _ _ h => h) (Or.inl ⟨by rfl, ?_⟩) ?_ ?_
                rotate_left
                · intro w'
                  go_simp
                  with_reducible rfl
                rotate_left
                · simp only [Act.put, List.setIfInBounds_toArray, List.set_cons_zero, List.set_cons_succ, i64_w, i32_w]
                  rfl
                refine pure_ (i := 4) (N := some 21) (v := ?_) (a' := ?_) #[true, true, true, false, true, false, false, false, false, false] rfl rfl (any_of HT_.out (by kernel_rfl)) (fun _ _ _ h => h) (Or.inl ⟨by rfl, ?_⟩) ?_ ?_
                rotate_left
                · intro w'
                  go_simp
                  with_reducible rfl
                rotate_left
                · simp only [Act.put, List.setIfInBounds_toArray, List.set_cons_zero, List.set_cons_succ, i64_w, i32_w]
                  rfl
                refine pure_ (i := 5) (N := some 22) (v := ?_) (a' := ?_) #[true, true, true, false, true, true, false, false, false, false] rfl rfl (any_of HT_.out (by kernel_rfl)) (fun _ _ _ h => h) (Or.inl ⟨by rfl, ?_⟩) ?_ ?_
                rotate_left
                · intro w'
                  go_simp
                  with_reducible rfl
                rotate_left
                · simp only [Act.put, List.setIfInBounds_toArray, List.set_cons_zero, List.set_cons_succ, i64_w, i32_w]
                  rfl
                refine pure_ (i := 6) (N := some 23) (v := ?_) (a' := ?_) #[true, true, true, false, true, true, true, false, false, false] rfl rfl (any_of HT_.out (by kernel_rfl)) (fun _ _ _ h => h) (Or.inl ⟨by rfl, ?_⟩) ?_ ?_
                rotate_left
                · intro w'
                  go_simp
                  with_reducible rfl
                rotate_left
                · simp only [Act.put, List.setIfInBounds_toArray, List.set_cons_zero, List.set_cons_succ, i64_w, i32_w]
                  rfl
                refine take_ (i := 3) (N := some 20) (v := ?_) (a' := ?_) #[true, true, true, true, true, true, true, false, false, false] rfl rfl (take_ofW HT_.out HW_.out (by kernel_rfl)) (fun _ _ _ h => h) (Or.inl ⟨by rfl, ?_⟩) hHeld ?_ ?_
                rotate_left
                · rintro w' ⟨s0, s1, s2, s3, s4, s5, s6, s7⟩
                  go_simp
                  with_reducible rfl
                rotate_left
                · simp only [Act.put, List.setIfInBounds_toArray, List.set_cons_zero, List.set_cons_succ, i64_w, i32_w]
                  rfl
                refine take_ (i := 7) (N := some 24) (v := ?_) (a' := ?_) #[true, true, true, true, true, true, true, true, false, false] rfl rfl (take_ofW HT_.out HW_.out (by kernel_rfl)) (fun _ _ _ h => h) (Or.inl ⟨by rfl, ?_⟩) hHeld ?_ ?_
                rotate_left
                · rintro w' ⟨s0, s1, s2, s3, s4, s5, s6, s7⟩
                  go_simp
                  with_reducible rfl
                rotate_left
                · simp only [Act.put, List.setIfInBounds_toArray, List.set_cons_zero, List.set_cons_succ, i64_w, i32_w]
                  rfl
                refine one_ (i := 8) (N := some 25) #[true, true, true, true, true, true, true, true, true, false] rfl rfl (one_of HT_.out (by kernel_rfl)) (by decide) (fun K hK => ?_)
                refine goes_ Tryz.func75 (by kernel_rfl) rfl #[.agg #[.int .i64 ((rd_T95 l0 x5_1).f0), .int .i64 ((rd_T95 l0 x5_1).f1), .int .i64 ((rd_T95 l0 x5_1).f2), .int .i64 ((rd_T95 l0 x5_1).f3)], .agg #[.int .i64 ((rd_T95 l1 x5_1).f0), .int .i64 ((rd_T95 l1 x5_1).f1), .int .i64 ((rd_T95 l1 x5_1).f2), .int .i64 ((rd_T95 l1 x5_1).f3)]] (by rfl) rfl rfl (by (try simp only [List.map_toArray, List.map_cons, List.map_nil]); first | done | rfl | (simp only [List.length_drop, List.length_take]; rfl)) ?_
                with_reducible refine (laws_eqIns.calls ((rd_T95 l0 x5_1).f0) ((rd_T95 l0 x5_1).f1) ((rd_T95 l0 x5_1).f2) ((rd_T95 l0 x5_1).f3) ((rd_T95 l1 x5_1).f0) ((rd_T95 l1 x5_1).f1) ((rd_T95 l1 x5_1).f2) ((rd_T95 l1 x5_1).f3) false _ A7.out).mono ?_
                rintro e w12 ⟨rfl, hb⟩
                refine ⟨_, rfl, ?_⟩
                have n0_ := Aside0.mk (below_step (by repeat (first | (with_reducible first | exact HB.out | apply below_alloc | apply pw_below_drewN | apply below_drew1) | exact HB.out)) hb)
                clear HB
                have HB := n0_
                clear n0_
                (try clear hb)
                (try clear hb2)
                (try clear hk)
                (try clear hi)
                refine hK.out _ _ ⟨((HB.out.cell (World.block_lt_of_cell? w _ hw11_0)).trans hw11_0), ((HB.out.cell (World.block_lt_of_cell? w _ hw11_1)).trans hw11_1), ((HB.out.cell (World.block_lt_of_cell? w _ hw11_2)).trans hw11_2), ((HB.out.cell (World.block_lt_of_cell? w _ hw11_3)).trans hw11_3), ((HB.out.cell (World.block_lt_of_cell? w _ hw12_0)).trans hw12_0), ((HB.out.cell (World.block_lt_of_cell? w _ hw12_1)).trans hw12_1), ((HB.out.cell (World.block_lt_of_cell? w _ hw12_2)).trans hw12_2), ((HB.out.cell (World.block_lt_of_cell? w _ hw12_3)).trans hw12_3)⟩ (fun hHeld => ?_)
                clear hK K
                refine norm_ (a' := ?_) ?_ ?_
                rotate_left
                · show Act.put _ (some 25) _ = _
                  simp only [Act.put, List.setIfInBounds_toArray, List.set_cons_zero, List.set_cons_succ, i64_w, i32_w]
                  rfl
                refine pure_ (i := 9) (N := some 26) (v := ?_) (a' := ?_) #[true, true, true, true, true, true, true, true, true, true] rfl rfl (any_of HT_.out (by kernel_rfl)) (fun _ _ _ h => h) (Or.inl ⟨by rfl, ?_⟩) ?_ ?_
                rotate_left
                · intro w'
                  go_simp
                  with_reducible rfl
                rotate_left
                · simp only [Act.put, List.setIfInBounds_toArray, List.set_cons_zero, List.set_cons_succ, i64_w, i32_w]
                  rfl
                refine done_ (done_of HT_.out (by kernel_rfl)) ?_
                try go_wp2
                go_ret
                exact ⟨by first | rfl | (simp [errW_none, errW_some] <;> rfl) | (simp [*, errW_none, errW_some] <;> rfl), by repeat (first | (with_reducible first | exact HB.out | apply below_alloc | apply pw_below_drewN | apply below_drew1) | exact HB.out)⟩
            · rw [if_neg c6] at H
              exact absurd H (by simp)
          · rw [if_neg c5] at H
            exact absurd H (by simp)
        · rw [if_neg c4] at H
          have c4b0 : decide (x5_1 < (l0.length : Int)) = false := decide_eq_false c4
          clear c4
          obtain rfl := Option.some.inj H
          go_wp2
          go_ret
          exact ⟨by first | rfl | (simp [errW_none, errW_some] <;> rfl) | (simp [*, errW_none, errW_some] <;> rfl), by repeat (first | (with_reducible first | exact HB.out | apply below_alloc | apply pw_below_drewN | apply below_drew1) | exact HB.out)⟩
  · rw [if_neg c3] at H
    have c3b0 : ((l0.length : Int) == (l1.length : Int)) = false := beq_eq_false_iff_ne.mpr c3
    have c3b1 : ((l0.length : Int) != (l1.length : Int)) = true := bne_iff_ne.mpr c3
    have c3b2 : (l0.length == l1.length) = false := by first | simpa using c3 | (simp at c3 ⊢; omega)
    obtain rfl := Option.some.inj H
    go_enter Tryz.func39, Tryz.ntmps39
    go_wp2
    go_ret
    exact ⟨by first | rfl | (simp [errW_none, errW_some] <;> rfl) | (simp [*, errW_none, errW_some] <;> rfl), by repeat (first | (with_reducible first | exact HB.out | apply below_alloc | apply pw_below_drewN | apply below_drew1) | exact HB.out)⟩

/-! ### laws_eqIntS: function 41 -/
def laws_eqIntS.l0 : Nat → List Int → List Int → Int → Option (Bool)
 | 0, _, _, _ => none
 | k + 1, x0, x1, x5 => if x5 < (x0.length : Int) then (if 0 ≤ x5 then (if x5 < (x1.length : Int) then (if (rd x0 x5) = (rd x1 x5) then (laws_eqIntS.l0 k x0 x1 (wrap64 (x5 + 1))) else (some false)) else (none)) else (none)) else (some true)
def laws_eqIntS.f (k : Nat) (l0 : List Int) (l1 : List Int) : Option (Bool) := if (l0.length : Int) = (l1.length : Int) then (laws_eqIntS.l0 k l0 l1 0) else (some false)
set_option maxHeartbeats 8000000 in
set_option maxRecDepth 100000 in
theorem laws_eqIntS.calls (k : Nat) (A0 : Option Addr) (c0 : Nat) (l0 : List Int) (A1 : Option Addr) (c1 : Nat) (l1 : List Int) (r : Bool) (w : World) (hr0 : Kd.C (Kd.int .i64) w A0 l0.length l0) (hc0 : l0.length ≤ c0) (hr1 : Kd.C (Kd.int .i64) w A1 l1.length l1) (hc1 : l1.length ≤ c1) (h : laws_eqIntS.f k l0 l1 = some r) :
  Calls Tryz.prog 41 #[.slice A0 l0.length c0, .slice A1 l1.length c1] w fun e w' => e = .returned (.bool r) ∧ Drawn0 w w' := by
 have HR0 := Aside0.mk hr0; have HC0 := Aside0.mk hc0; clear hr0 hc0; have HR1 := Aside0.mk hr1; have HC1 := Aside0.mk hc1; clear hr1 hc1
 have H : (if (l0.length : Int) = (l1.length : Int) then (laws_eqIntS.l0 k l0 l1 0) else (some false)) = some r := h
 clear h
 by_cases c3 : (l0.length : Int) = (l1.length : Int)
 ·rw [if_pos c3] at H
  have c3b0 : ((l0.length : Int) == (l1.length : Int)) = true := beq_iff_eq.mpr c3
  have c3b1 : ((l0.length : Int) != (l1.length : Int)) = false := bne_eq_false_iff_eq.mpr c3
  have c3b2 : (l0.length == l1.length) = true := by first | simpa using c3 | (simp at c3 ⊢; omega)
  clear c3
  have H' := Aside0.mk H
  clear H
  go_enter Tryz.func41, Tryz.ntmps41
  go_wp2
  repeat (go_quiet (fail); try go_wp2)
  go_loopg [5] k (fun kq v5 w' => ∃ (x5_1 : Int), v5 = .int .i64 x5_1 ∧ Aside0 (laws_eqIntS.l0 kq l0 l1 x5_1 = some r) ∧ Aside0 (kq ≤ k) ∧ Drawn0 w w')
  case atStart => exact ⟨(0), rfx, H', ⟨Nat.le_refl _⟩, by repeat (first | exact Drawn0.refl _ | apply Drawn0.step)⟩
  case round =>
   clear H'
   try clear c1
   try clear p2
   try clear c3
   try clear c3b0
   try clear c3b1
   try clear c3b2
   obtain ⟨x5_1, rfl, HA, HK1, ⟨m1, rfl⟩⟩ := hrel
   cases gk with
   | zero => exact absurd HA.out (by simp [laws_eqIntS.l0])
   | succ k1 =>
    have H := HA.out; clear HA
    simp only [laws_eqIntS.l0] at H
    by_cases c4 : x5_1 < (l0.length : Int)
    ·rw [if_pos c4] at H
     have c4b0 := decide_eq_true c4
     clear c4
     obtain ⟨c5, H⟩ := ifS H
     have c5b0 := decide_eq_true c5
     clear c5
     obtain ⟨c6, H⟩ := ifS H
     have c6b0 := decide_eq_true c6
     clear c6
     by_cases c7 : (rd l0 x5_1) = (rd l1 x5_1)
     ·rw [if_pos c7] at H
      have c7b0 : ((rd l0 x5_1) == (rd l1 x5_1)) = true := beq_iff_eq.mpr c7
      have c7b1 : ((rd l0 x5_1) != (rd l1 x5_1)) = false := bne_eq_false_iff_eq.mpr c7
      clear c7
      have H' := Aside0.mk H
      clear H
      obtain ⟨p11, q11, ad11, e11, hx11_0⟩ := pqa (fun (p_ : 0 ≤ (x5_1 : Int)) (q_ : x5_1 < (l0.length : Int)) => Kd.at_int HR0.out x5_1 p_ q_); cases e11
      obtain ⟨p12, q12, ad12, e12, hx12_0⟩ := pqa (fun (p_ : 0 ≤ (x5_1 : Int)) (q_ : x5_1 < (l1.length : Int)) => Kd.at_int HR1.out x5_1 p_ q_); cases e12
      go_wp2
      repeat (go_quiet (fail); try go_wp2)
      go_roundg k1
      case measure => have := HK1.out; omega
      case rel => exact ⟨(wrap64 (x5_1 + 1)), rfx, H', ⟨by have := HK1.out; omega⟩, by repeat (first | exact Drawn0.refl _ | apply Drawn0.step)⟩
     ·rw [if_neg c7] at H
      have c7b0 : ((rd l0 x5_1) == (rd l1 x5_1)) = false := beq_eq_false_iff_ne.mpr c7
      have c7b1 : ((rd l0 x5_1) != (rd l1 x5_1)) = true := bne_iff_ne.mpr c7
      obtain rfl := oI H
      obtain ⟨p11, q11, ad11, e11, hx11_0⟩ := pqa (fun (p_ : 0 ≤ (x5_1 : Int)) (q_ : x5_1 < (l0.length : Int)) => Kd.at_int HR0.out x5_1 p_ q_); cases e11
      obtain ⟨p12, q12, ad12, e12, hx12_0⟩ := pqa (fun (p_ : 0 ≤ (x5_1 : Int)) (q_ : x5_1 < (l1.length : Int)) => Kd.at_int HR1.out x5_1 p_ q_); cases e12
      go_wp2
      repeat (go_quiet (fail); try go_wp2)
      go_ret
      exact ⟨by first | rfl | (simp; done) | (simp [*]; done), by repeat (first | exact Drawn0.refl _ | apply Drawn0.step)⟩
    ·rw [if_neg c4] at H
     have c4b0 := decide_eq_false c4
     clear c4; obtain rfl := oI H
     go_wp2
     repeat (go_quiet (fail); try go_wp2)
     go_ret
     exact ⟨by first | rfl | (simp; done) | (simp [*]; done), by repeat (first | exact Drawn0.refl _ | apply Drawn0.step)⟩
 ·rw [if_neg c3] at H
  have c3b0 : ((l0.length : Int) == (l1.length : Int)) = false := beq_eq_false_iff_ne.mpr c3
  have c3b1 : ((l0.length : Int) != (l1.length : Int)) = true := bne_iff_ne.mpr c3
  have c3b2 : (l0.length == l1.length) = false := by first | simpa using c3 | (simp at c3 ⊢; omega)
  obtain rfl := oI H
  go_enter Tryz.func41, Tryz.ntmps41
  go_wp2
  repeat (go_quiet (fail); try go_wp2)
  go_ret
  exact ⟨by first | rfl | (simp; done) | (simp [*]; done), by repeat (first | exact Drawn0.refl _ | apply Drawn0.step)⟩

/-! ### laws_eqFrame: function 148 -/
def laws_eqFrame.f (a0_0 : Int) (a0_1 : Int) (a0_2 : Int) (a1_0 : Int) (a1_1 : Int) (a1_2 : Int) : Option (Bool) := if a0_0 = a1_0 then (if a0_1 = a1_1 then (if a0_2 = a1_2 then (some true) else (some false)) else (some false)) else (some false)
set_option maxHeartbeats 8000000 in
set_option maxRecDepth 100000 in
theorem laws_eqFrame.calls (a0_0 : Int) (a0_1 : Int) (a0_2 : Int) (a1_0 : Int) (a1_1 : Int) (a1_2 : Int) (r : Bool) (w : World) (h : laws_eqFrame.f a0_0 a0_1 a0_2 a1_0 a1_1 a1_2 = some r) :
    Calls Tryz.prog 148 #[.agg #[.int .i64 a0_0, .int .i64 a0_1, .int .i64 a0_2], .agg #[.int .i64 a1_0, .int .i64 a1_1, .int .i64 a1_2]] w fun e w' => e = .returned (.bool r) ∧ Below w.heap.size w w' := by
  have hu132 := Tryz.underlying132
  have HB := Aside0.mk (Below.refl w.heap.size w)
  have H : (if a0_0 = a1_0 then (if a0_1 = a1_1 then (if a0_2 = a1_2 then (some true) else (some false)) else (some false)) else (some false)) = some r := h
  clear h
  by_cases c3 : a0_0 = a1_0
  · rw [if_pos c3] at H
    have c3b0 : (a0_0 == a1_0) = true := beq_iff_eq.mpr c3
    have c3b1 : (a0_0 != a1_0) = false := bne_eq_false_iff_eq.mpr c3
    clear c3
    by_cases c4 : a0_1 = a1_1
    · rw [if_pos c4] at H
      have c4b0 : (a0_1 == a1_1) = true := beq_iff_eq.mpr c4
      have c4b1 : (a0_1 != a1_1) = false := bne_eq_false_iff_eq.mpr c4
      clear c4
      by_cases c5 : a0_2 = a1_2
      · rw [if_pos c5] at H
        have c5b0 : (a0_2 == a1_2) = true := beq_iff_eq.mpr c5
        have c5b1 : (a0_2 != a1_2) = false := bne_eq_false_iff_eq.mpr c5
        clear c5
        obtain rfl := Option.some.inj H
        go_enter Tryz.func148, Tryz.ntmps148
        go_wp2_with (first | ((with_reducible refine gate_dst (N := 2) rfl ?_); refine box_event ?hg (N := 2) ?hd (cs := #[.int .i64 a0_0, .int .i64 a0_1, .int .i64 a0_2]) (t := 132) ?hr ?_; (case hd => rfl); (case hg => rfl); (case hr => first | (go_simp; done) | (go_simp; rfl)); intro gb11 hg w6 hbox hb; have n0_ := Aside0.mk (below_step (by repeat (first | (with_reducible first | exact HB.out | apply below_alloc | apply pw_below_drewN | apply below_drew1) | exact HB.out)) hb); have n1_ := Aside0.mk (hbox); have n2_ := Aside0.mk ((by rw [hg]; exact (below_size (by repeat (first | (with_reducible first | exact HB.out | apply below_alloc | apply pw_below_drewN | apply below_drew1) | exact HB.out))) : w.heap.size ≤ gb11)); have n3_ := Aside0.mk ((by rw [hg]; exact (below_size (by repeat (first | (with_reducible first | exact HB.out | apply below_alloc | apply pw_below_drewN | apply below_drew1) | exact HB.out))) : w.heap.size ≤ gb11)); clear HB; have HB := n0_; have BK11 := n1_; have GW11 := n2_; have GE11 := n3_; clear n0_ n1_ n2_ n3_; clear hb hbox hg) | ((with_reducible refine gate_dst (N := 3) rfl ?_); refine box_event ?hg (N := 3) ?hd (cs := #[.int .i64 a1_0, .int .i64 a1_1, .int .i64 a1_2]) (t := 132) ?hr ?_; (case hd => rfl); (case hg => rfl); (case hr => first | (go_simp; done) | (go_simp; rfl)); intro gb12 hg w7 hbox hb; have n0_ := Aside0.mk (blk_below (g := gb11) (o := .cells #[.int .i64 a0_0, .int .i64 a0_1, .int .i64 a0_2] 132 (0, 0)) (by (with_reducible repeat (first | refine blk_drewN ?_ _ | refine blk_drew ?_ | refine blk_alloc ?_ _)); exact BK11.out) hb); have n1_ := Aside0.mk (below_step (by repeat (first | (with_reducible first | exact HB.out | apply below_alloc | apply pw_below_drewN | apply below_drew1 | refine below_set ?_ GE11.out) | exact HB.out)) hb); have n2_ := Aside0.mk (hbox); have n3_ := Aside0.mk ((by rw [hg]; exact (below_size (by repeat (first | (with_reducible first | exact HB.out | apply below_alloc | apply pw_below_drewN | apply below_drew1 | refine below_set ?_ GE11.out) | exact HB.out))) : w.heap.size ≤ gb12)); have n4_ := Aside0.mk ((by rw [hg]; exact (below_size (by repeat (first | (with_reducible first | exact HB.out | apply below_alloc | apply pw_below_drewN | apply below_drew1 | refine below_set ?_ GE11.out) | exact HB.out))) : w.heap.size ≤ gb12)); have n5_ := Aside0.mk ((by rw [hg]; exact Nat.ne_of_lt (blk_lt (g := gb11) (o := .cells #[.int .i64 a0_0, .int .i64 a0_1, .int .i64 a0_2] 132 (0, 0)) (by (with_reducible repeat (first | refine blk_drewN ?_ _ | refine blk_drew ?_ | refine blk_alloc ?_ _)); exact BK11.out)) : gb11 ≠ gb12)); have n6_ := Aside0.mk ((by rw [hg]; exact Nat.ne_of_gt (blk_lt (g := gb11) (o := .cells #[.int .i64 a0_0, .int .i64 a0_1, .int .i64 a0_2] 132 (0, 0)) (by (with_reducible repeat (first | refine blk_drewN ?_ _ | refine blk_drew ?_ | refine blk_alloc ?_ _)); exact BK11.out)) : gb12 ≠ gb11)); clear BK11; clear HB; have BK11 := n0_; have HB := n1_; have BK12 := n2_; have GW12 := n3_; have GE12 := n4_; have NB11_12 := n5_; have NB12_11 := n6_; clear n0_ n1_ n2_ n3_ n4_ n5_ n6_; clear hb hbox hg; have hnb8 := NB11_12.out; have hnc8 := NB12_11.out; have hcz9_0 : w7.cell? ⟨gb11, 0, none⟩ = some (.int .i64 a0_0) := (blk_cell BK11.out 0).trans rfl; have hcz9_1 : w7.cell? ⟨gb11, 1, none⟩ = some (.int .i64 a0_1) := (blk_cell BK11.out 1).trans rfl; have hcz9_2 : w7.cell? ⟨gb11, 2, none⟩ = some (.int .i64 a0_2) := (blk_cell BK11.out 2).trans rfl; have hfz9_0 := blk_frozen BK11.out 0; have hfz9_1 := blk_frozen BK11.out 1; have hfz9_2 := blk_frozen BK11.out 2; have hcz10_0 : w7.cell? ⟨gb12, 0, none⟩ = some (.int .i64 a1_0) := (blk_cell BK12.out 0).trans rfl; have hcz10_1 : w7.cell? ⟨gb12, 1, none⟩ = some (.int .i64 a1_1) := (blk_cell BK12.out 1).trans rfl; have hcz10_2 : w7.cell? ⟨gb12, 2, none⟩ = some (.int .i64 a1_2) := (blk_cell BK12.out 2).trans rfl; have hfz10_0 := blk_frozen BK12.out 0; have hfz10_1 := blk_frozen BK12.out 1; have hfz10_2 := blk_frozen BK12.out 2))
        go_ret
        exact ⟨by first | rfl | (simp [errW_none, errW_some] <;> rfl) | (simp [*, errW_none, errW_some] <;> rfl), by repeat (first | (with_reducible first | exact HB.out | apply below_alloc | apply pw_below_drewN | apply below_drew1 | refine below_set ?_ GE11.out | refine below_set ?_ GE12.out) | exact HB.out)⟩
      · rw [if_neg c5] at H
        have c5b0 : (a0_2 == a1_2) = false := beq_eq_false_iff_ne.mpr c5
        have c5b1 : (a0_2 != a1_2) = true := bne_iff_ne.mpr c5
        obtain rfl := Option.some.inj H
        go_enter Tryz.func148, Tryz.ntmps148
        go_wp2_with (first | ((with_reducible refine gate_dst (N := 2) rfl ?_); refine box_event ?hg (N := 2) ?hd (cs := #[.int .i64 a0_0, .int .i64 a0_1, .int .i64 a0_2]) (t := 132) ?hr ?_; (case hd => rfl); (case hg => rfl); (case hr => first | (go_simp; done) | (go_simp; rfl)); intro gb11 hg w11 hbox hb; have n0_ := Aside0.mk (below_step (by repeat (first | (with_reducible first | exact HB.out | apply below_alloc | apply pw_below_drewN | apply below_drew1) | exact HB.out)) hb); have n1_ := Aside0.mk (hbox); have n2_ := Aside0.mk ((by rw [hg]; exact (below_size (by repeat (first | (with_reducible first | exact HB.out | apply below_alloc | apply pw_below_drewN | apply below_drew1) | exact HB.out))) : w.heap.size ≤ gb11)); have n3_ := Aside0.mk ((by rw [hg]; exact (below_size (by repeat (first | (with_reducible first | exact HB.out | apply below_alloc | apply pw_below_drewN | apply below_drew1) | exact HB.out))) : w.heap.size ≤ gb11)); clear HB; have HB := n0_; have BK11 := n1_; have GW11 := n2_; have GE11 := n3_; clear n0_ n1_ n2_ n3_; clear hb hbox hg) | ((with_reducible refine gate_dst (N := 3) rfl ?_); refine box_event ?hg (N := 3) ?hd (cs := #[.int .i64 a1_0, .int .i64 a1_1, .int .i64 a1_2]) (t := 132) ?hr ?_; (case hd => rfl); (case hg => rfl); (case hr => first | (go_simp; done) | (go_simp; rfl)); intro gb12 hg w12 hbox hb; have n0_ := Aside0.mk (blk_below (g := gb11) (o := .cells #[.int .i64 a0_0, .int .i64 a0_1, .int .i64 a0_2] 132 (0, 0)) (by (with_reducible repeat (first | refine blk_drewN ?_ _ | refine blk_drew ?_ | refine blk_alloc ?_ _)); exact BK11.out) hb); have n1_ := Aside0.mk (below_step (by repeat (first | (with_reducible first | exact HB.out | apply below_alloc | apply pw_below_drewN | apply below_drew1 | refine below_set ?_ GE11.out) | exact HB.out)) hb); have n2_ := Aside0.mk (hbox); have n3_ := Aside0.mk ((by rw [hg]; exact (below_size (by repeat (first | (with_reducible first | exact HB.out | apply below_alloc | apply pw_below_drewN | apply below_drew1 | refine below_set ?_ GE11.out) | exact HB.out))) : w.heap.size ≤ gb12)); have n4_ := Aside0.mk ((by rw [hg]; exact (below_size (by repeat (first | (with_reducible first | exact HB.out | apply below_alloc | apply pw_below_drewN | apply below_drew1 | refine below_set ?_ GE11.out) | exact HB.out))) : w.heap.size ≤ gb12)); have n5_ := Aside0.mk ((by rw [hg]; exact Nat.ne_of_lt (blk_lt (g := gb11) (o := .cells #[.int .i64 a0_0, .int .i64 a0_1, .int .i64 a0_2] 132 (0, 0)) (by (with_reducible repeat (first | refine blk_drewN ?_ _ | refine blk_drew ?_ | refine blk_alloc ?_ _)); exact BK11.out)) : gb11 ≠ gb12)); have n6_ := Aside0.mk ((by rw [hg]; exact Nat.ne_of_gt (blk_lt (g := gb11) (o := .cells #[.int .i64 a0_0, .int .i64 a0_1, .int .i64 a0_2] 132 (0, 0)) (by (with_reducible repeat (first | refine blk_drewN ?_ _ | refine blk_drew ?_ | refine blk_alloc ?_ _)); exact BK11.out)) : gb12 ≠ gb11)); clear BK11; clear HB; have BK11 := n0_; have HB := n1_; have BK12 := n2_; have GW12 := n3_; have GE12 := n4_; have NB11_12 := n5_; have NB12_11 := n6_; clear n0_ n1_ n2_ n3_ n4_ n5_ n6_; clear hb hbox hg; have hnb13 := NB11_12.out; have hnc13 := NB12_11.out; have hcz14_0 : w12.cell? ⟨gb11, 0, none⟩ = some (.int .i64 a0_0) := (blk_cell BK11.out 0).trans rfl; have hcz14_1 : w12.cell? ⟨gb11, 1, none⟩ = some (.int .i64 a0_1) := (blk_cell BK11.out 1).trans rfl; have hcz14_2 : w12.cell? ⟨gb11, 2, none⟩ = some (.int .i64 a0_2) := (blk_cell BK11.out 2).trans rfl; have hfz14_0 := blk_frozen BK11.out 0; have hfz14_1 := blk_frozen BK11.out 1; have hfz14_2 := blk_frozen BK11.out 2; have hcz15_0 : w12.cell? ⟨gb12, 0, none⟩ = some (.int .i64 a1_0) := (blk_cell BK12.out 0).trans rfl; have hcz15_1 : w12.cell? ⟨gb12, 1, none⟩ = some (.int .i64 a1_1) := (blk_cell BK12.out 1).trans rfl; have hcz15_2 : w12.cell? ⟨gb12, 2, none⟩ = some (.int .i64 a1_2) := (blk_cell BK12.out 2).trans rfl; have hfz15_0 := blk_frozen BK12.out 0; have hfz15_1 := blk_frozen BK12.out 1; have hfz15_2 := blk_frozen BK12.out 2))
        go_ret
        exact ⟨by first | rfl | (simp [errW_none, errW_some] <;> rfl) | (simp [*, errW_none, errW_some] <;> rfl), by repeat (first | (with_reducible first | exact HB.out | apply below_alloc | apply pw_below_drewN | apply below_drew1 | refine below_set ?_ GE11.out | refine below_set ?_ GE12.out) | exact HB.out)⟩
    · rw [if_neg c4] at H
      have c4b0 : (a0_1 == a1_1) = false := beq_eq_false_iff_ne.mpr c4
      have c4b1 : (a0_1 != a1_1) = true := bne_iff_ne.mpr c4
      obtain rfl := Option.some.inj H
      go_enter Tryz.func148, Tryz.ntmps148
      go_wp2_with (first | ((with_reducible refine gate_dst (N := 2) rfl ?_); refine box_event ?hg (N := 2) ?hd (cs := #[.int .i64 a0_0, .int .i64 a0_1, .int .i64 a0_2]) (t := 132) ?hr ?_; (case hd => rfl); (case hg => rfl); (case hr => first | (go_simp; done) | (go_simp; rfl)); intro gb11 hg w16 hbox hb; have n0_ := Aside0.mk (below_step (by repeat (first | (with_reducible first | exact HB.out | apply below_alloc | apply pw_below_drewN | apply below_drew1) | exact HB.out)) hb); have n1_ := Aside0.mk (hbox); have n2_ := Aside0.mk ((by rw [hg]; exact (below_size (by repeat (first | (with_reducible first | exact HB.out | apply below_alloc | apply pw_below_drewN | apply below_drew1) | exact HB.out))) : w.heap.size ≤ gb11)); have n3_ := Aside0.mk ((by rw [hg]; exact (below_size (by repeat (first | (with_reducible first | exact HB.out | apply below_alloc | apply pw_below_drewN | apply below_drew1) | exact HB.out))) : w.heap.size ≤ gb11)); clear HB; have HB := n0_; have BK11 := n1_; have GW11 := n2_; have GE11 := n3_; clear n0_ n1_ n2_ n3_; clear hb hbox hg) | ((with_reducible refine gate_dst (N := 3) rfl ?_); refine box_event ?hg (N := 3) ?hd (cs := #[.int .i64 a1_0, .int .i64 a1_1, .int .i64 a1_2]) (t := 132) ?hr ?_; (case hd => rfl); (case hg => rfl); (case hr => first | (go_simp; done) | (go_simp; rfl)); intro gb12 hg w17 hbox hb; have n0_ := Aside0.mk (blk_below (g := gb11) (o := .cells #[.int .i64 a0_0, .int .i64 a0_1, .int .i64 a0_2] 132 (0, 0)) (by (with_reducible repeat (first | refine blk_drewN ?_ _ | refine blk_drew ?_ | refine blk_alloc ?_ _)); exact BK11.out) hb); have n1_ := Aside0.mk (below_step (by repeat (first | (with_reducible first | exact HB.out | apply below_alloc | apply pw_below_drewN | apply below_drew1 | refine below_set ?_ GE11.out) | exact HB.out)) hb); have n2_ := Aside0.mk (hbox); have n3_ := Aside0.mk ((by rw [hg]; exact (below_size (by repeat (first | (with_reducible first | exact HB.out | apply below_alloc | apply pw_below_drewN | apply below_drew1 | refine below_set ?_ GE11.out) | exact HB.out))) : w.heap.size ≤ gb12)); have n4_ := Aside0.mk ((by rw [hg]; exact (below_size (by repeat (first | (with_reducible first | exact HB.out | apply below_alloc | apply pw_below_drewN | apply below_drew1 | refine below_set ?_ GE11.out) | exact HB.out))) : w.heap.size ≤ gb12)); have n5_ := Aside0.mk ((by rw [hg]; exact Nat.ne_of_lt (blk_lt (g := gb11) (o := .cells #[.int .i64 a0_0, .int .i64 a0_1, .int .i64 a0_2] 132 (0, 0)) (by (with_reducible repeat (first | refine blk_drewN ?_ _ | refine blk_drew ?_ | refine blk_alloc ?_ _)); exact BK11.out)) : gb11 ≠ gb12)); have n6_ := Aside0.mk ((by rw [hg]; exact Nat.ne_of_gt (blk_lt (g := gb11) (o := .cells #[.int .i64 a0_0, .int .i64 a0_1, .int .i64 a0_2] 132 (0, 0)) (by (with_reducible repeat (first | refine blk_drewN ?_ _ | refine blk_drew ?_ | refine blk_alloc ?_ _)); exact BK11.out)) : gb12 ≠ gb11)); clear BK11; clear HB; have BK11 := n0_; have HB := n1_; have BK12 := n2_; have GW12 := n3_; have GE12 := n4_; have NB11_12 := n5_; have NB12_11 := n6_; clear n0_ n1_ n2_ n3_ n4_ n5_ n6_; clear hb hbox hg; have hnb18 := NB11_12.out; have hnc18 := NB12_11.out; have hcz19_0 : w17.cell? ⟨gb11, 0, none⟩ = some (.int .i64 a0_0) := (blk_cell BK11.out 0).trans rfl; have hcz19_1 : w17.cell? ⟨gb11, 1, none⟩ = some (.int .i64 a0_1) := (blk_cell BK11.out 1).trans rfl; have hcz19_2 : w17.cell? ⟨gb11, 2, none⟩ = some (.int .i64 a0_2) := (blk_cell BK11.out 2).trans rfl; have hfz19_0 := blk_frozen BK11.out 0; have hfz19_1 := blk_frozen BK11.out 1; have hfz19_2 := blk_frozen BK11.out 2; have hcz20_0 : w17.cell? ⟨gb12, 0, none⟩ = some (.int .i64 a1_0) := (blk_cell BK12.out 0).trans rfl; have hcz20_1 : w17.cell? ⟨gb12, 1, none⟩ = some (.int .i64 a1_1) := (blk_cell BK12.out 1).trans rfl; have hcz20_2 : w17.cell? ⟨gb12, 2, none⟩ = some (.int .i64 a1_2) := (blk_cell BK12.out 2).trans rfl; have hfz20_0 := blk_frozen BK12.out 0; have hfz20_1 := blk_frozen BK12.out 1; have hfz20_2 := blk_frozen BK12.out 2))
      go_ret
      exact ⟨by first | rfl | (simp [errW_none, errW_some] <;> rfl) | (simp [*, errW_none, errW_some] <;> rfl), by repeat (first | (with_reducible first | exact HB.out | apply below_alloc | apply pw_below_drewN | apply below_drew1 | refine below_set ?_ GE11.out | refine below_set ?_ GE12.out) | exact HB.out)⟩
  · rw [if_neg c3] at H
    have c3b0 : (a0_0 == a1_0) = false := beq_eq_false_iff_ne.mpr c3
    have c3b1 : (a0_0 != a1_0) = true := bne_iff_ne.mpr c3
    obtain rfl := Option.some.inj H
    go_enter Tryz.func148, Tryz.ntmps148
    go_wp2_with (first | ((with_reducible refine gate_dst (N := 2) rfl ?_); refine box_event ?hg (N := 2) ?hd (cs := #[.int .i64 a0_0, .int .i64 a0_1, .int .i64 a0_2]) (t := 132) ?hr ?_; (case hd => rfl); (case hg => rfl); (case hr => first | (go_simp; done) | (go_simp; rfl)); intro gb11 hg w21 hbox hb; have n0_ := Aside0.mk (below_step (by repeat (first | (with_reducible first | exact HB.out | apply below_alloc | apply pw_below_drewN | apply below_drew1) | exact HB.out)) hb); have n1_ := Aside0.mk (hbox); have n2_ := Aside0.mk ((by rw [hg]; exact (below_size (by repeat (first | (with_reducible first | exact HB.out | apply below_alloc | apply pw_below_drewN | apply below_drew1) | exact HB.out))) : w.heap.size ≤ gb11)); have n3_ := Aside0.mk ((by rw [hg]; exact (below_size (by repeat (first | (with_reducible first | exact HB.out | apply below_alloc | apply pw_below_drewN | apply below_drew1) | exact HB.out))) : w.heap.size ≤ gb11)); clear HB; have HB := n0_; have BK11 := n1_; have GW11 := n2_; have GE11 := n3_; clear n0_ n1_ n2_ n3_; clear hb hbox hg) | ((with_reducible refine gate_dst (N := 3) rfl ?_); refine box_event ?hg (N := 3) ?hd (cs := #[.int .i64 a1_0, .int .i64 a1_1, .int .i64 a1_2]) (t := 132) ?hr ?_; (case hd => rfl); (case hg => rfl); (case hr => first | (go_simp; done) | (go_simp; rfl)); intro gb12 hg w22 hbox hb; have n0_ := Aside0.mk (blk_below (g := gb11) (o := .cells #[.int .i64 a0_0, .int .i64 a0_1, .int .i64 a0_2] 132 (0, 0)) (by (with_reducible repeat (first | refine blk_drewN ?_ _ | refine blk_drew ?_ | refine blk_alloc ?_ _)); exact BK11.out) hb); have n1_ := Aside0.mk (below_step (by repeat (first | (with_reducible first | exact HB.out | apply below_alloc | apply pw_below_drewN | apply below_drew1 | refine below_set ?_ GE11.out) | exact HB.out)) hb); have n2_ := Aside0.mk (hbox); have n3_ := Aside0.mk ((by rw [hg]; exact (below_size (by repeat (first | (with_reducible first | exact HB.out | apply below_alloc | apply pw_below_drewN | apply below_drew1 | refine below_set ?_ GE11.out) | exact HB.out))) : w.heap.size ≤ gb12)); have n4_ := Aside0.mk ((by rw [hg]; exact (below_size (by repeat (first | (with_reducible first | exact HB.out | apply below_alloc | apply pw_below_drewN | apply below_drew1 | refine below_set ?_ GE11.out) | exact HB.out))) : w.heap.size ≤ gb12)); have n5_ := Aside0.mk ((by rw [hg]; exact Nat.ne_of_lt (blk_lt (g := gb11) (o := .cells #[.int .i64 a0_0, .int .i64 a0_1, .int .i64 a0_2] 132 (0, 0)) (by (with_reducible repeat (first | refine blk_drewN ?_ _ | refine blk_drew ?_ | refine blk_alloc ?_ _)); exact BK11.out)) : gb11 ≠ gb12)); have n6_ := Aside0.mk ((by rw [hg]; exact Nat.ne_of_gt (blk_lt (g := gb11) (o := .cells #[.int .i64 a0_0, .int .i64 a0_1, .int .i64 a0_2] 132 (0, 0)) (by (with_reducible repeat (first | refine blk_drewN ?_ _ | refine blk_drew ?_ | refine blk_alloc ?_ _)); exact BK11.out)) : gb12 ≠ gb11)); clear BK11; clear HB; have BK11 := n0_; have HB := n1_; have BK12 := n2_; have GW12 := n3_; have GE12 := n4_; have NB11_12 := n5_; have NB12_11 := n6_; clear n0_ n1_ n2_ n3_ n4_ n5_ n6_; clear hb hbox hg; have hnb23 := NB11_12.out; have hnc23 := NB12_11.out; have hcz24_0 : w22.cell? ⟨gb11, 0, none⟩ = some (.int .i64 a0_0) := (blk_cell BK11.out 0).trans rfl; have hcz24_1 : w22.cell? ⟨gb11, 1, none⟩ = some (.int .i64 a0_1) := (blk_cell BK11.out 1).trans rfl; have hcz24_2 : w22.cell? ⟨gb11, 2, none⟩ = some (.int .i64 a0_2) := (blk_cell BK11.out 2).trans rfl; have hfz24_0 := blk_frozen BK11.out 0; have hfz24_1 := blk_frozen BK11.out 1; have hfz24_2 := blk_frozen BK11.out 2; have hcz25_0 : w22.cell? ⟨gb12, 0, none⟩ = some (.int .i64 a1_0) := (blk_cell BK12.out 0).trans rfl; have hcz25_1 : w22.cell? ⟨gb12, 1, none⟩ = some (.int .i64 a1_1) := (blk_cell BK12.out 1).trans rfl; have hcz25_2 : w22.cell? ⟨gb12, 2, none⟩ = some (.int .i64 a1_2) := (blk_cell BK12.out 2).trans rfl; have hfz25_0 := blk_frozen BK12.out 0; have hfz25_1 := blk_frozen BK12.out 1; have hfz25_2 := blk_frozen BK12.out 2))
    go_ret
    exact ⟨by first | rfl | (simp [errW_none, errW_some] <;> rfl) | (simp [*, errW_none, errW_some] <;> rfl), by repeat (first | (with_reducible first | exact HB.out | apply below_alloc | apply pw_below_drewN | apply below_drew1 | refine below_set ?_ GE11.out | refine below_set ?_ GE12.out) | exact HB.out)⟩

/-! ### laws_eqFrameS: function 117 -/
def laws_eqFrameS.l0 : Nat → List (S132) → List (S132) → Int → Option (Bool)
  | 0, _, _, _ => none
  | k + 1, x0, x1, x5 => if x5 < (x0.length : Int) then (if 0 ≤ x5 then (if x5 < (x1.length : Int) then ((laws_eqFrame.f ((rd_T132 x0 x5).f0) ((rd_T132 x0 x5).f1) ((rd_T132 x0 x5).f2) ((rd_T132 x1 x5).f0) ((rd_T132 x1 x5).f1) ((rd_T132 x1 x5).f2)).bind fun t13 => (if t13 = true then (laws_eqFrameS.l0 k x0 x1 (wrap64 (x5 + 1))) else (some false))) else (none)) else (none)) else (some true)
def laws_eqFrameS.f (k : Nat) (l0 : List (S132)) (l1 : List (S132)) : Option (Bool) := if (l0.length : Int) = (l1.length : Int) then (laws_eqFrameS.l0 k l0 l1 0) else (some false)
def laws_eqFrameS.T6 : Bool × List (List Nat × List Nat) := (true, [([], []), ([], []), ([0, 1], [0, 1]), ([2], [2]), ([], []), ([], []), ([4, 5], [4, 5]), ([6], [6]), ([3, 7], [3, 7]), ([8], [8])])
def laws_eqFrameS.B6 : List Nat := [0, 0, 3, 7, 0, 0, 48, 112, 255, 511]
theorem laws_eqFrameS.tab6 : rtab .any (opsOf Tryz.f117 6) = laws_eqFrameS.T6 := by kernel_rfl
theorem laws_eqFrameS.bits6 : waitsOk laws_eqFrameS.T6.2 laws_eqFrameS.B6 = true := by kernel_rfl
set_option maxHeartbeats 8000000 in
set_option maxRecDepth 100000 in
theorem laws_eqFrameS.calls (k : Nat) (A0 : Option Addr) (c0 : Nat) (l0 : List (S132)) (A1 : Option Addr) (c1 : Nat) (l1 : List (S132)) (r : Bool) (w : World) (hr0 : Kd.C k132 w A0 l0.length l0) (hc0 : l0.length ≤ c0) (hr1 : Kd.C k132 w A1 l1.length l1) (hc1 : l1.length ≤ c1) (h : laws_eqFrameS.f k l0 l1 = some r) :
    Calls Tryz.prog 117 #[.slice A0 l0.length c0, .slice A1 l1.length c1] w fun e w' => e = .returned (.bool r) ∧ Below w.heap.size w w' := by
  have hu132 := Tryz.underlying132
  have HR0 := Aside0.mk hr0
  have HC0 := Aside0.mk hc0
  clear hr0 hc0
  have HR1 := Aside0.mk hr1
  have HC1 := Aside0.mk hc1
  clear hr1 hc1
  have HB := Aside0.mk (Below.refl w.heap.size w)
  have H : (if (l0.length : Int) = (l1.length : Int) then (laws_eqFrameS.l0 k l0 l1 0) else (some false)) = some r := h
  clear h
  by_cases c3 : (l0.length : Int) = (l1.length : Int)
  · rw [if_pos c3] at H
    have c3b0 : ((l0.length : Int) == (l1.length : Int)) = true := beq_iff_eq.mpr c3
    have c3b1 : ((l0.length : Int) != (l1.length : Int)) = false := bne_eq_false_iff_eq.mpr c3
    have c3b2 : (l0.length == l1.length) = true := by first | simpa using c3 | (simp at c3 ⊢; omega)
    clear c3
    have H' := Aside0.mk H
    clear H
    go_enter Tryz.func117, Tryz.ntmps117
    go_wp2
    go_loopg [5] k (fun kq v5 w' => ∃ (x5_1 : Int), v5 = .int .i64 x5_1 ∧ Aside0 (laws_eqFrameS.l0 kq l0 l1 x5_1 = some r) ∧ Aside0 (kq ≤ k) ∧ Aside0 (Below w.heap.size w w'))
    case atStart => exact ⟨(0), (by first | rfl | (simp; done) | (simp [*]; done)), H', ⟨Nat.le_refl _⟩, ⟨by repeat (first | (with_reducible first | exact HB.out | apply below_alloc | apply pw_below_drewN | apply below_drew1) | exact HB.out)⟩⟩
    case round =>
      clear H'
      try clear c1
      try clear p2
      try clear c3
      try clear c3b0
      try clear c3b1
      try clear c3b2
      obtain ⟨x5_1, rfl, HA, HK1, HB⟩ := hrel
      cases gk with
      | zero => exact absurd HA.out (by simp [laws_eqFrameS.l0])
      | succ k1 =>
        have H := HA.out
        clear HA
        simp only [laws_eqFrameS.l0] at H
        by_cases c4 : x5_1 < (l0.length : Int)
        · rw [if_pos c4] at H
          have c4b0 : decide (x5_1 < (l0.length : Int)) = true := decide_eq_true c4
          clear c4
          by_cases c5 : 0 ≤ x5_1
          · rw [if_pos c5] at H
            have c5b0 : decide (0 ≤ x5_1) = true := decide_eq_true c5
            clear c5
            by_cases c6 : x5_1 < (l1.length : Int)
            · rw [if_pos c6] at H
              have c6b0 : decide (x5_1 < (l1.length : Int)) = true := decide_eq_true c6
              clear c6
              replace H := Option.bind_eq_some_iff.mp H
              obtain ⟨t13, A70, H⟩ := H
              replace H : (if t13 = true then (laws_eqFrameS.l0 k1 l0 l1 (wrap64 (x5_1 + 1))) else (some false)) = some r := H
              have A7 := Aside0.mk A70
              clear A70
              by_cases c8 : t13 = true
              · subst c8
                have H1 : (laws_eqFrameS.l0 k1 l0 l1 (wrap64 (x5_1 + 1))) = some r := by rw [if_pos rfl] at H; exact H
                clear H
                have H := H1
                clear H1
                have H' := Aside0.mk H
                clear H
                try go_wp2
                have n0_ := Aside0.mk (below_drew1 HB.out)
                clear HB
                have HB := n0_
                clear n0_
                have p11 : 0 ≤ (x5_1 : Int) := of_decide_eq_true (by first | (with_reducible assumption) | assumption)
                have q11 : x5_1 < (l0.length : Int) := of_decide_eq_true (by first | (with_reducible assumption) | assumption)
                obtain ⟨ad11, e11, hx11_0, hx11_1, hx11_2⟩ := at_T132 HR0.out x5_1 p11 q11
                have hw11_2 := hx11_2
                have hw11_1 := hx11_1
                have hw11_0 := hx11_0
                cases e11
                replace hx11_0 := (HB.out.cell (World.block_lt_of_cell? w _ hx11_0)).trans hx11_0
                replace hx11_1 := (HB.out.cell (World.block_lt_of_cell? w _ hx11_1)).trans hx11_1
                replace hx11_2 := (HB.out.cell (World.block_lt_of_cell? w _ hx11_2)).trans hx11_2
                replace p11 := eq_true p11
                replace q11 := eq_true q11
                have p12 : 0 ≤ (x5_1 : Int) := of_decide_eq_true (by first | (with_reducible assumption) | assumption)
                have q12 : x5_1 < (l1.length : Int) := of_decide_eq_true (by first | (with_reducible assumption) | assumption)
                obtain ⟨ad12, e12, hx12_0, hx12_1, hx12_2⟩ := at_T132 HR1.out x5_1 p12 q12
                have hw12_2 := hx12_2
                have hw12_1 := hx12_1
                have hw12_0 := hx12_0
                cases e12
                replace hx12_0 := (HB.out.cell (World.block_lt_of_cell? w _ hx12_0)).trans hx12_0
                replace hx12_1 := (HB.out.cell (World.block_lt_of_cell? w _ hx12_1)).trans hx12_1
                replace hx12_2 := (HB.out.cell (World.block_lt_of_cell? w _ hx12_2)).trans hx12_2
                replace p12 := eq_true p12
                replace q12 := eq_true q12
                refine start_ (n := 10) (S := fun w' => w'.cell? (ad11.add ((x5_1).toNat * 3)) = some (.int .i64 ((rd_T132 l0 x5_1).f0)) ∧ w'.cell? ⟨(ad11.add ((x5_1).toNat * 3)).block, (ad11.add ((x5_1).toNat * 3)).off + 1, none⟩ = some (.int .i64 ((rd_T132 l0 x5_1).f1)) ∧ w'.cell? ⟨(ad11.add ((x5_1).toNat * 3)).block, (ad11.add ((x5_1).toNat * 3)).off + 2, none⟩ = some (.int .i64 ((rd_T132 l0 x5_1).f2)) ∧ w'.cell? (ad12.add ((x5_1).toNat * 3)) = some (.int .i64 ((rd_T132 l1 x5_1).f0)) ∧ w'.cell? ⟨(ad12.add ((x5_1).toNat * 3)).block, (ad12.add ((x5_1).toNat * 3)).off + 1, none⟩ = some (.int .i64 ((rd_T132 l1 x5_1).f1)) ∧ w'.cell? ⟨(ad12.add ((x5_1).toNat * 3)).block, (ad12.add ((x5_1).toNat * 3)).off + 2, none⟩ = some (.int .i64 ((rd_T132 l1 x5_1).f2))) (ds := []) #[false, false, false, false, false, false, false, false, false, false] (by kernel_rfl) rfl rfl ⟨((HB.out.cell (World.block_lt_of_cell? w _ hw11_0)).trans hw11_0), ((HB.out.cell (World.block_lt_of_cell? w _ hw11_1)).trans hw11_1), ((HB.out.cell (World.block_lt_of_cell? w _ hw11_2)).trans hw11_2), ((HB.out.cell (World.block_lt_of_cell? w _ hw12_0)).trans hw12_0), ((HB.out.cell (World.block_lt_of_cell? w _ hw12_1)).trans hw12_1), ((HB.out.cell (World.block_lt_of_cell? w _ hw12_2)).trans hw12_2)⟩ (fun hHeld => ?_); refine with_tabW laws_eqFrameS.tab6 laws_eqFrameS.bits6 (fun HT_ HW_ => ?_)
                generalize wr.drew = w9 at HB hx11_0 hx11_1 hx11_2 hx12_0 hx12_1 hx12_2 hHeld ⊢
                refine pure_ (i := 0) (N := some 17) (v := ?_) (a' := ?_) #[true, false, false, false, false, false, false, false, false, false] rfl rfl (any_of HT_.out (by kernel_rfl)) (fun _ _ _ h => h) (Or.inl ⟨by rfl, ?_⟩) ?_ ?_
                rotate_left
                · intro w'
                  go_simp
                  with_reducible rfl
                rotate_left
                · simp only [Act.put, List.setIfInBounds_toArray, List.set_cons_zero, List.set_cons_succ, i64_w, i32_w]
                  rfl
                refine pure_ (i := 1) (N := some 18) (v := ?_) (a' := ?_) #[true, true, false, false, false, false, false, false, false, false] rfl rfl (any_of HT_.out (by kernel_rfl)) (fun _ _ _ h => h) (Or.inl ⟨by rfl, ?_⟩) ?_ ?_
                rotate_left
                · intro w'
                  go_simp
                  with_reducible rfl
                rotate_left
                · simp only [Act.put, List.setIfInBounds_toArray, List.set_cons_zero, List.set_cons_succ, i64_w, i32_w]
                  rfl
                refine pure_ (i := 2) (N := some 19) (v := ?_) (a' := ?_) #[true, true, true, false, false, false, false, false, false, false] rfl rfl (any_of HT_.out (by kernel_rfl)) (fun _ _ _ h => h) (Or.inl ⟨by rfl, ?_⟩) ?_ ?_
                rotate_left
                · intro w'
                  go_simp
                  with_reducible rfl
                rotate_left
                · simp only [Act.put, List.setIfInBounds_toArray, List.set_cons_zero, List.set_cons_succ, i64_w, i32_w]
                  rfl
                refine pure_ (i := 4) (N := some 21) (v := ?_) (a' := ?_) #[true, true, true, false, true, false, false, false, false, false] rfl rfl (any_of HT_.out (by kernel_rfl)) (fun _ _ _ h => h) (Or.inl ⟨by rfl, ?_⟩) ?_ ?_
                rotate_left
                · intro w'
                  go_simp
                  with_reducible rfl
                rotate_left
                · simp only [Act.put, List.setIfInBounds_toArray, List.set_cons_zero, List.set_cons_succ, i64_w, i32_w]
                  rfl
                refine pure_ (i := 5) (N := some 22) (v := ?_) (a' := ?_) #[true, true, true, false, true, true, false, false, false, false] rfl rfl (any_of HT_.out (by kernel_rfl)) (fun _ _ _ h => h) (Or.inl ⟨by rfl, ?_⟩) ?_ ?_
                rotate_left
                · intro w'
                  go_simp
                  with_reducible rfl
                rotate_left
                · simp only [Act.put, List.setIfInBounds_toArray, List.set_cons_zero, List.set_cons_succ, i64_w, i32_w]
                  rfl
                refine pure_ (i := 6) (N := some 23) (v := ?_) (a' := ?_) #[true, true, true, false, true, true, true, false, false, false] rfl rfl (any_of HT_.out (by kernel_rfl)) (fun _ _ _ h => h) (Or.inl ⟨by rfl, ?_⟩) ?_ ?_
                rotate_left
                · intro w'
                  go_simp
                  with_reducible rfl
                rotate_left
                · simp only [Act.put, List.setIfInBounds_toArray, List.set_cons_zero, List.set_cons_succ, i64_w, i32_w]
                  rfl
                refine take_ (i := 3) (N := some 20) (v := ?_) (a' := ?_) #[true, true, true, true, true, true, true, false, false, false] rfl rfl (take_ofW HT_.out HW_.out (by kernel_rfl)) (fun _ _ _ h => h) (Or.inl ⟨by rfl, ?_⟩) hHeld ?_ ?_
                rotate_left
                · rintro w' ⟨s0, s1, s2, s3, s4, s5⟩
                  go_simp
                  with_reducible rfl
                rotate_left
                · simp only [Act.put, List.setIfInBounds_toArray, List.set_cons_zero, List.set_cons_succ, i64_w, i32_w]
                  rfl
                refine take_ (i := 7) (N := some 24) (v := ?_) (a' := ?_) #[true, true, true, true, true, true, true, true, false, false] rfl rfl (take_ofW HT_.out HW_.out (by kernel_rfl)) (fun _ _ _ h => h) (Or.inl ⟨by rfl, ?_⟩) hHeld ?_ ?_
                rotate_left
                · rintro w' ⟨s0, s1, s2, s3, s4, s5⟩
                  go_simp
                  with_reducible rfl
                rotate_left
                · simp only [Act.put, List.setIfInBounds_toArray, List.set_cons_zero, List.set_cons_succ, i64_w, i32_w]
                  rfl
                refine one_ (i := 8) (N := some 25) #[true, true, true, true, true, true, true, true, true, false] rfl rfl (one_of HT_.out (by kernel_rfl)) (by decide) (fun K hK => ?_)
                refine goes_ Tryz.func148 (by kernel_rfl) rfl #[.agg #[.int .i64 ((rd_T132 l0 x5_1).f0), .int .i64 ((rd_T132 l0 x5_1).f1), .int .i64 ((rd_T132 l0 x5_1).f2)], .agg #[.int .i64 ((rd_T132 l1 x5_1).f0), .int .i64 ((rd_T132 l1 x5_1).f1), .int .i64 ((rd_T132 l1 x5_1).f2)]] (by rfl) rfl rfl (by (try simp only [List.map_toArray, List.map_cons, List.map_nil]); first | done | rfl | (simp only [List.length_drop, List.length_take]; rfl)) ?_
                with_reducible refine (laws_eqFrame.calls ((rd_T132 l0 x5_1).f0) ((rd_T132 l0 x5_1).f1) ((rd_T132 l0 x5_1).f2) ((rd_T132 l1 x5_1).f0) ((rd_T132 l1 x5_1).f1) ((rd_T132 l1 x5_1).f2) true _ A7.out).mono ?_
                rintro e w10 ⟨rfl, hb⟩
                refine ⟨_, rfl, ?_⟩
                have n0_ := Aside0.mk (below_step (by repeat (first | (with_reducible first | exact HB.out | apply below_alloc | apply pw_below_drewN | apply below_drew1) | exact HB.out)) hb)
                clear HB
                have HB := n0_
                clear n0_
                (try clear hb)
                (try clear hb2)
                (try clear hk)
                (try clear hi)
                refine hK.out _ _ ⟨((HB.out.cell (World.block_lt_of_cell? w _ hw11_0)).trans hw11_0), ((HB.out.cell (World.block_lt_of_cell? w _ hw11_1)).trans hw11_1), ((HB.out.cell (World.block_lt_of_cell? w _ hw11_2)).trans hw11_2), ((HB.out.cell (World.block_lt_of_cell? w _ hw12_0)).trans hw12_0), ((HB.out.cell (World.block_lt_of_cell? w _ hw12_1)).trans hw12_1), ((HB.out.cell (World.block_lt_of_cell? w _ hw12_2)).trans hw12_2)⟩ (fun hHeld => ?_)
                clear hK K
                refine norm_ (a' := ?_) ?_ ?_
                rotate_left
                · show Act.put _ (some 25) _ = _
                  simp only [Act.put, List.setIfInBounds_toArray, List.set_cons_zero, List.set_cons_succ, i64_w, i32_w]
                  rfl
                refine pure_ (i := 9) (N := some 26) (v := ?_) (a' := ?_) #[true, true, true, true, true, true, true, true, true, true] rfl rfl (any_of HT_.out (by kernel_rfl)) (fun _ _ _ h => h) (Or.inl ⟨by rfl, ?_⟩) ?_ ?_
                rotate_left
                · intro w'
                  go_simp
                  with_reducible rfl
                rotate_left
                · simp only [Act.put, List.setIfInBounds_toArray, List.set_cons_zero, List.set_cons_succ, i64_w, i32_w]
                  rfl
                refine done_ (done_of HT_.out (by kernel_rfl)) ?_
                try go_wp2
                go_roundg k1
                case measure => have := HK1.out; omega
                case rel => exact ⟨(wrap64 (x5_1 + 1)), (by first | rfl | (simp; done) | (simp [*]; done)), H', ⟨by have := HK1.out; omega⟩, ⟨by repeat (first | (with_reducible first | exact HB.out | apply below_alloc | apply pw_below_drewN | apply below_drew1) | exact HB.out)⟩⟩
              · replace c8 := Bool.eq_false_iff.mpr c8
                subst c8
                have H1 : (some false) = some r := by rw [if_neg (show ¬ (false = true) by decide)] at H; exact H
                clear H
                have H := H1
                clear H1
                obtain rfl := Option.some.inj H
                try go_wp2
                have n0_ := Aside0.mk (below_drew1 HB.out)
                clear HB
                have HB := n0_
                clear n0_
                have p11 : 0 ≤ (x5_1 : Int) := of_decide_eq_true (by first | (with_reducible assumption) | assumption)
                have q11 : x5_1 < (l0.length : Int) := of_decide_eq_true (by first | (with_reducible assumption) | assumption)
                obtain ⟨ad11, e11, hx11_0, hx11_1, hx11_2⟩ := at_T132 HR0.out x5_1 p11 q11
                have hw11_2 := hx11_2
                have hw11_1 := hx11_1
                have hw11_0 := hx11_0
                cases e11
                replace hx11_0 := (HB.out.cell (World.block_lt_of_cell? w _ hx11_0)).trans hx11_0
                replace hx11_1 := (HB.out.cell (World.block_lt_of_cell? w _ hx11_1)).trans hx11_1
                replace hx11_2 := (HB.out.cell (World.block_lt_of_cell? w _ hx11_2)).trans hx11_2
                replace p11 := eq_true p11
                replace q11 := eq_true q11
                have p12 : 0 ≤ (x5_1 : Int) := of_decide_eq_true (by first | (with_reducible assumption) | assumption)
                have q12 : x5_1 < (l1.length : Int) := of_decide_eq_true (by first | (with_reducible assumption) | assumption)
                obtain ⟨ad12, e12, hx12_0, hx12_1, hx12_2⟩ := at_T132 HR1.out x5_1 p12 q12
                have hw12_2 := hx12_2
                have hw12_1 := hx12_1
                have hw12_0 := hx12_0
                cases e12
                replace hx12_0 := (HB.out.cell (World.block_lt_of_cell? w _ hx12_0)).trans hx12_0
                replace hx12_1 := (HB.out.cell (World.block_lt_of_cell? w _ hx12_1)).trans hx12_1
                replace hx12_2 := (HB.out.cell (World.block_lt_of_cell? w _ hx12_2)).trans hx12_2
                replace p12 := eq_true p12
                replace q12 := eq_true q12
                refine start_ (n := 10) (S := fun w' => w'.cell? (ad11.add ((x5_1).toNat * 3)) = some (.int .i64 ((rd_T132 l0 x5_1).f0)) ∧ w'.cell? ⟨(ad11.add ((x5_1).toNat * 3)).block, (ad11.add ((x5_1).toNat * 3)).off + 1, none⟩ = some (.int .i64 ((rd_T132 l0 x5_1).f1)) ∧ w'.cell? ⟨(ad11.add ((x5_1).toNat * 3)).block, (ad11.add ((x5_1).toNat * 3)).off + 2, none⟩ = some (.int .i64 ((rd_T132 l0 x5_1).f2)) ∧ w'.cell? (ad12.add ((x5_1).toNat * 3)) = some (.int .i64 ((rd_T132 l1 x5_1).f0)) ∧ w'.cell? ⟨(ad12.add ((x5_1).toNat * 3)).block, (ad12.add ((x5_1).toNat * 3)).off + 1, none⟩ = some (.int .i64 ((rd_T132 l1 x5_1).f1)) ∧ w'.cell? ⟨(ad12.add ((x5_1).toNat * 3)).block, (ad12.add ((x5_1).toNat * 3)).off + 2, none⟩ = some (.int .i64 ((rd_T132 l1 x5_1).f2))) (ds := []) #[false, false, false, false, false, false, false, false, false, false] (by kernel_rfl) rfl rfl ⟨((HB.out.cell (World.block_lt_of_cell? w _ hw11_0)).trans hw11_0), ((HB.out.cell (World.block_lt_of_cell? w _ hw11_1)).trans hw11_1), ((HB.out.cell (World.block_lt_of_cell? w _ hw11_2)).trans hw11_2), ((HB.out.cell (World.block_lt_of_cell? w _ hw12_0)).trans hw12_0), ((HB.out.cell (World.block_lt_of_cell? w _ hw12_1)).trans hw12_1), ((HB.out.cell (World.block_lt_of_cell? w _ hw12_2)).trans hw12_2)⟩ (fun hHeld => ?_); refine with_tabW laws_eqFrameS.tab6 laws_eqFrameS.bits6 (fun HT_ HW_ => ?_)
                generalize wr.drew = w11 at HB hx11_0 hx11_1 hx11_2 hx12_0 hx12_1 hx12_2 hHeld ⊢
                refine pure_ (i := 0) (N := some 17) (v := ?_) (a' := ?_) #[true, false, false, false, false, false, false, false, false, false] rfl rfl (any_of HT_.out (by kernel_rfl)) (fun _ _ _ h => h) (Or.inl ⟨by rfl, ?_⟩) ?_ ?_
                rotate_left
                · intro w'
                  go_simp
                  with_reducible rfl
                rotate_left
                · simp only [Act.put, List.setIfInBounds_toArray, List.set_cons_zero, List.set_cons_succ, i64_w, i32_w]
                  rfl
                refine pure_ (i := 1) (N := some 18) (v := ?_) (a' := ?_) #[true, true, false, false, false, false, false, false, false, false] rfl rfl (any_of HT_.out (by kernel_rfl)) (fun _ _ _ h => h) (Or.inl ⟨by rfl, ?_⟩) ?_ ?_
                rotate_left
                · intro w'
                  go_simp
                  with_reducible rfl
                rotate_left
                · simp only [Act.put, List.setIfInBounds_toArray, List.set_cons_zero, List.set_cons_succ, i64_w, i32_w]
                  rfl
                refine pure_ (i := 2) (N := some 19) (v := ?_) (a' := ?_) #[true, true, true, false, false, false, false, false, false, false] rfl rfl (any_of HT_.out (by kernel_rfl)) (fun _ _ _ h => h) (Or.inl ⟨by rfl, ?_⟩) ?_ ?_
                rotate_left
                · intro w'
                  go_simp
                  with_reducible rfl
                rotate_left
                · simp only [Act.put, List.setIfInBounds_toArray, List.set_cons_zero, List.set_cons_succ, i64_w, i32_w]
                  rfl
                refine pure_ (i := 4) (N := some 21) (v := ?_) (a' := ?_) #[true, true, true, false, true, false, false, false, false, false] rfl rfl (any_of HT_.out (by kernel_rfl)) (fun _ _ _ h => h) (Or.inl ⟨by rfl, ?_⟩) ?_ ?_
                rotate_left
                · intro w'
                  go_simp
                  with_reducible rfl
                rotate_left
                · simp only [Act.put, List.setIfInBounds_toArray, List.set_cons_zero, List.set_cons_succ, i64_w, i32_w]
                  rfl
                refine pure_ (i := 5) (N := some 22) (v := ?_) (a' := ?_) #[true, true, true, false, true, true, false, false, false, false] rfl rfl (any_of HT_.out (by kernel_rfl)) (fun _ _ _ h => h) (Or.inl ⟨by rfl, ?_⟩) ?_ ?_
                rotate_left
                · intro w'
                  go_simp
                  with_reducible rfl
                rotate_left
                · simp only [Act.put, List.setIfInBounds_toArray, List.set_cons_zero, List.set_cons_succ, i64_w, i32_w]
                  rfl
                refine pure_ (i := 6) (N := some 23) (v := ?_) (a' := ?_) #[true, true, true, false, true, true, true, false, false, false] rfl rfl (any_of HT_.out (by kernel_rfl)) (fun _ _ _ h => h) (Or.inl ⟨by rfl, ?_⟩) ?_ ?_
                rotate_left
                · intro w'
                  go_simp
                  with_reducible rfl
                rotate_left
                · simp only [Act.put, List.setIfInBounds_toArray, List.set_cons_zero, List.set_cons_succ, i64_w, i32_w]
                  rfl
                refine take_ (i := 3) (N := some 20) (v := ?_) (a' := ?_) #[true, true, true, true, true, true, true, false, false, false] rfl rfl (take_ofW HT_.out HW_.out (by kernel_rfl)) (fun _ _ _ h => h) (Or.inl ⟨by rfl, ?_⟩) hHeld ?_ ?_
                rotate_left
                · rintro w' ⟨s0, s1, s2, s3, s4, s5⟩
                  go_simp
                  with_reducible rfl
                rotate_left
                · simp only [Act.put, List.setIfInBounds_toArray, List.set_cons_zero, List.set_cons_succ, i64_w, i32_w]
                  rfl
                refine take_ (i := 7) (N := some 24) (v := ?_) (a' := ?_) #[true, true, true, true, true, true, true, true, false, false] rfl rfl (take_ofW HT_.out HW_.out (by kernel_rfl)) (fun _ _ _ h => h) (Or.inl ⟨by rfl, ?_⟩) hHeld ?_ ?_
                rotate_left
                · rintro w' ⟨s0, s1, s2, s3, s4, s5⟩
                  go_simp
                  with_reducible rfl
                rotate_left
                · simp only [Act.put, List.setIfInBounds_toArray, List.set_cons_zero, List.set_cons_succ, i64_w, i32_w]
                  rfl
                refine one_ (i := 8) (N := some 25) #[true, true, true, true, true, true, true, true, true, false] rfl rfl (one_of HT_.out (by kernel_rfl)) (by decide) (fun K hK => ?_)
                refine goes_ Tryz.func148 (by kernel_rfl) rfl #[.agg #[.int .i64 ((rd_T132 l0 x5_1).f0), .int .i64 ((rd_T132 l0 x5_1).f1), .int .i64 ((rd_T132 l0 x5_1).f2)], .agg #[.int .i64 ((rd_T132 l1 x5_1).f0), .int .i64 ((rd_T132 l1 x5_1).f1), .int .i64 ((rd_T132 l1 x5_1).f2)]] (by rfl) rfl rfl (by (try simp only [List.map_toArray, List.map_cons, List.map_nil]); first | done | rfl | (simp only [List.length_drop, List.length_take]; rfl)) ?_
                with_reducible refine (laws_eqFrame.calls ((rd_T132 l0 x5_1).f0) ((rd_T132 l0 x5_1).f1) ((rd_T132 l0 x5_1).f2) ((rd_T132 l1 x5_1).f0) ((rd_T132 l1 x5_1).f1) ((rd_T132 l1 x5_1).f2) false _ A7.out).mono ?_
                rintro e w12 ⟨rfl, hb⟩
                refine ⟨_, rfl, ?_⟩
                have n0_ := Aside0.mk (below_step (by repeat (first | (with_reducible first | exact HB.out | apply below_alloc | apply pw_below_drewN | apply below_drew1) | exact HB.out)) hb)
                clear HB
                have HB := n0_
                clear n0_
                (try clear hb)
                (try clear hb2)
                (try clear hk)
                (try clear hi)
                refine hK.out _ _ ⟨((HB.out.cell (World.block_lt_of_cell? w _ hw11_0)).trans hw11_0), ((HB.out.cell (World.block_lt_of_cell? w _ hw11_1)).trans hw11_1), ((HB.out.cell (World.block_lt_of_cell? w _ hw11_2)).trans hw11_2), ((HB.out.cell (World.block_lt_of_cell? w _ hw12_0)).trans hw12_0), ((HB.out.cell (World.block_lt_of_cell? w _ hw12_1)).trans hw12_1), ((HB.out.cell (World.block_lt_of_cell? w _ hw12_2)).trans hw12_2)⟩ (fun hHeld => ?_)
                clear hK K
                refine norm_ (a' := ?_) ?_ ?_
                rotate_left
                · show Act.put _ (some 25) _ = _
                  simp only [Act.put, List.setIfInBounds_toArray, List.set_cons_zero, List.set_cons_succ, i64_w, i32_w]
                  rfl
                refine pure_ (i := 9) (N := some 26) (v := ?_) (a' := ?_) #[true, true, true, true, true, true, true, true, true, true] rfl rfl (any_of HT_.out (by kernel_rfl)) (fun _ _ _ h => h) (Or.inl ⟨by rfl, ?_⟩) ?_ ?_
                rotate_left
                · intro w'
                  go_simp
                  with_reducible rfl
                rotate_left
                · simp only [Act.put, List.setIfInBounds_toArray, List.set_cons_zero, List.set_cons_succ, i64_w, i32_w]
                  rfl
                refine done_ (done_of HT_.out (by kernel_rfl)) ?_
                try go_wp2
                go_ret
                exact ⟨by first | rfl | (simp [errW_none, errW_some] <;> rfl) | (simp [*, errW_none, errW_some] <;> rfl), by repeat (first | (with_reducible first | exact HB.out | apply below_alloc | apply pw_below_drewN | apply below_drew1) | exact HB.out)⟩
            · rw [if_neg c6] at H
              exact absurd H (by simp)
          · rw [if_neg c5] at H
            exact absurd H (by simp)
        · rw [if_neg c4] at H
          have c4b0 : decide (x5_1 < (l0.length : Int)) = false := decide_eq_false c4
          clear c4
          obtain rfl := Option.some.inj H
          go_wp2
          go_ret
          exact ⟨by first | rfl | (simp [errW_none, errW_some] <;> rfl) | (simp [*, errW_none, errW_some] <;> rfl), by repeat (first | (with_reducible first | exact HB.out | apply below_alloc | apply pw_below_drewN | apply below_drew1) | exact HB.out)⟩
  · rw [if_neg c3] at H
    have c3b0 : ((l0.length : Int) == (l1.length : Int)) = false := beq_eq_false_iff_ne.mpr c3
    have c3b1 : ((l0.length : Int) != (l1.length : Int)) = true := bne_iff_ne.mpr c3
    have c3b2 : (l0.length == l1.length) = false := by first | simpa using c3 | (simp at c3 ⊢; omega)
    obtain rfl := Option.some.inj H
    go_enter Tryz.func117, Tryz.ntmps117
    go_wp2
    go_ret
    exact ⟨by first | rfl | (simp [errW_none, errW_some] <;> rfl) | (simp [*, errW_none, errW_some] <;> rfl), by repeat (first | (with_reducible first | exact HB.out | apply below_alloc | apply pw_below_drewN | apply below_drew1) | exact HB.out)⟩

/-! ### laws_eqWarp: function 76 -/
def laws_eqWarp.f (k : Nat) (a0_0 : Int) (l0_1 : List (S132)) (l0_2 : List Int) (a1_0 : Int) (l1_1 : List (S132)) (l1_2 : List Int) : Option (Bool) := if a0_0 = a1_0 then ((laws_eqFrameS.f k l0_1 l1_1).bind fun t13 => (if t13 = true then ((laws_eqIntS.f k l0_2 l1_2).bind fun t14 => (if t14 = true then (some true) else (some false))) else (some false))) else (some false)
set_option maxHeartbeats 8000000 in
set_option maxRecDepth 100000 in
theorem laws_eqWarp.calls (k : Nat) (a0_0 : Int) (A0_1 : Option Addr) (c0_1 : Nat) (l0_1 : List (S132)) (A0_2 : Option Addr) (c0_2 : Nat) (l0_2 : List Int) (a1_0 : Int) (A1_1 : Option Addr) (c1_1 : Nat) (l1_1 : List (S132)) (A1_2 : Option Addr) (c1_2 : Nat) (l1_2 : List Int) (r : Bool) (w : World) (hr0_1 : Kd.C k132 w A0_1 l0_1.length l0_1) (hc0_1 : l0_1.length ≤ c0_1) (hr0_2 : Kd.C (Kd.int .i64) w A0_2 l0_2.length l0_2) (hc0_2 : l0_2.length ≤ c0_2) (hr1_1 : Kd.C k132 w A1_1 l1_1.length l1_1) (hc1_1 : l1_1.length ≤ c1_1) (hr1_2 : Kd.C (Kd.int .i64) w A1_2 l1_2.length l1_2) (hc1_2 : l1_2.length ≤ c1_2) (h : laws_eqWarp.f k a0_0 l0_1 l0_2 a1_0 l1_1 l1_2 = some r) :
  Calls Tryz.prog 76 #[.agg #[.int .i64 a0_0, .slice A0_1 l0_1.length c0_1, .slice A0_2 l0_2.length c0_2], .agg #[.int .i64 a1_0, .slice A1_1 l1_1.length c1_1, .slice A1_2 l1_2.length c1_2]] w fun e w' => e = .returned (.bool r) ∧ Below w.heap.size w w' := by
 have hu59 := Tryz.underlying59; have HR0_1 := Aside0.mk hr0_1; have HC0_1 := Aside0.mk hc0_1; clear hr0_1 hc0_1; have HR0_2 := Aside0.mk hr0_2; have HC0_2 := Aside0.mk hc0_2; clear hr0_2 hc0_2; have HR1_1 := Aside0.mk hr1_1; have HC1_1 := Aside0.mk hc1_1; clear hr1_1 hc1_1; have HR1_2 := Aside0.mk hr1_2; have HC1_2 := Aside0.mk hc1_2; clear hr1_2 hc1_2; have HB := Aside0.mk (Below.refl w.heap.size w)
 have H : (if a0_0 = a1_0 then ((laws_eqFrameS.f k l0_1 l1_1).bind fun t13 => (if t13 = true then ((laws_eqIntS.f k l0_2 l1_2).bind fun t14 => (if t14 = true then (some true) else (some false))) else (some false))) else (some false)) = some r := h
 clear h
 by_cases c3 : a0_0 = a1_0
 ·rw [if_pos c3] at H
  have c3b0 : (a0_0 == a1_0) = true := beq_iff_eq.mpr c3
  have c3b1 : (a0_0 != a1_0) = false := bne_eq_false_iff_eq.mpr c3
  clear c3; obtain ⟨t13, A4, H⟩ := bnd H; (try dsimp only at H)
  by_cases c5 : t13 = true
  ·subst c5; rw [if_pos rfl] at H; obtain ⟨t14, A6, H⟩ := bnd H; (try dsimp only at H)
   by_cases c7 : t14 = true
   ·subst c7; rw [if_pos rfl] at H; obtain rfl := oI H
    go_enter Tryz.func76, Tryz.ntmps76
    go_wp2_with (first | (refine bxe 2 #[.int .i64 a0_0, .slice A0_1 l0_1.length c0_1, .slice A0_2 l0_2.length c0_2] 59 ?_; intro gb11 hg w8 hbox hb; have BK11 := Aside0.mk (hbox); have GW11 := Aside0.mk (gwe hg : w.heap.size ≤ _); have GE11 := GW11; replace HB := hbs hb; clear hb hbox hg) | (refine bxe 3 #[.int .i64 a1_0, .slice A1_1 l1_1.length c1_1, .slice A1_2 l1_2.length c1_2] 59 ?_; intro gb12 hg w9 hbox hb; have BK12 := Aside0.mk (hbox); have GW12 := Aside0.mk (gwe hg : w.heap.size ≤ _); have GE12 := GW12; have NB11_12 := Aside0.mk (nbl hg BK11); have NB12_11 := Aside0.mk (nbg hg BK11); replace BK11 := kb BK11 hb; replace HB := hbs hb; clear hb hbox hg; have hnb10 := NB11_12.out; have hnc10 := NB12_11.out; obtain ⟨_, _, _, _, _, _⟩ := box3 BK11; obtain ⟨_, _, _, _, _, _⟩ := box3 BK12) | (refine gL 117 (some 14) Tryz.func117 #[.slice A0_1 l0_1.length c0_1, .slice A1_1 l1_1.length c1_1] ?_; refine (laws_eqFrameS.calls k _ _ l0_1 _ _ l1_1 true _ (cb HR0_1) HC0_1.out (cb HR1_1) HC1_1.out A4.out).mono ?_; rintro e w13 ⟨rfl, hb⟩; refine ⟨_, rfl, ?_⟩; replace BK11 := kb BK11 hb; replace BK12 := kb BK12 hb; replace HB := hbs hb; clear hb; obtain ⟨_, _, _, _, _, _⟩ := box3 BK11; obtain ⟨_, _, _, _, _, _⟩ := box3 BK12) | (refine gL 41 (some 20) Tryz.func41 #[.slice A0_2 l0_2.length c0_2, .slice A1_2 l1_2.length c1_2] ?_; refine (laws_eqIntS.calls k _ _ l0_2 _ _ l1_2 true _ (cb HR0_2) HC0_2.out (cb HR1_2) HC1_2.out A6.out).mono ?_; rintro e w' ⟨rfl, ⟨nd, rfl⟩⟩; refine ⟨_, rfl, ?_⟩))
    go_ret
    exact ⟨rfe, bels⟩
   ·replace c7 := Bool.eq_false_iff.mpr c7; subst c7; rw [if_neg (by decide)] at H; obtain rfl := oI H
    go_enter Tryz.func76, Tryz.ntmps76
    go_wp2_with (first | (refine bxe 2 #[.int .i64 a0_0, .slice A0_1 l0_1.length c0_1, .slice A0_2 l0_2.length c0_2] 59 ?_; intro gb11 hg w16 hbox hb; have BK11 := Aside0.mk (hbox); have GW11 := Aside0.mk (gwe hg : w.heap.size ≤ _); have GE11 := GW11; replace HB := hbs hb; clear hb hbox hg) | (refine bxe 3 #[.int .i64 a1_0, .slice A1_1 l1_1.length c1_1, .slice A1_2 l1_2.length c1_2] 59 ?_; intro gb12 hg w17 hbox hb; have BK12 := Aside0.mk (hbox); have GW12 := Aside0.mk (gwe hg : w.heap.size ≤ _); have GE12 := GW12; have NB11_12 := Aside0.mk (nbl hg BK11); have NB12_11 := Aside0.mk (nbg hg BK11); replace BK11 := kb BK11 hb; replace HB := hbs hb; clear hb hbox hg; have hnb18 := NB11_12.out; have hnc18 := NB12_11.out; obtain ⟨_, _, _, _, _, _⟩ := box3 BK11; obtain ⟨_, _, _, _, _, _⟩ := box3 BK12) | (refine gL 117 (some 14) Tryz.func117 #[.slice A0_1 l0_1.length c0_1, .slice A1_1 l1_1.length c1_1] ?_; refine (laws_eqFrameS.calls k _ _ l0_1 _ _ l1_1 true _ (cb HR0_1) HC0_1.out (cb HR1_1) HC1_1.out A4.out).mono ?_; rintro e w21 ⟨rfl, hb⟩; refine ⟨_, rfl, ?_⟩; replace BK11 := kb BK11 hb; replace BK12 := kb BK12 hb; replace HB := hbs hb; clear hb; obtain ⟨_, _, _, _, _, _⟩ := box3 BK11; obtain ⟨_, _, _, _, _, _⟩ := box3 BK12) | (refine gL 41 (some 20) Tryz.func41 #[.slice A0_2 l0_2.length c0_2, .slice A1_2 l1_2.length c1_2] ?_; refine (laws_eqIntS.calls k _ _ l0_2 _ _ l1_2 false _ (cb HR0_2) HC0_2.out (cb HR1_2) HC1_2.out A6.out).mono ?_; rintro e w' ⟨rfl, ⟨nd, rfl⟩⟩; refine ⟨_, rfl, ?_⟩))
    go_ret
    exact ⟨rfe, bels⟩
  ·replace c5 := Bool.eq_false_iff.mpr c5; subst c5; rw [if_neg (by decide)] at H; obtain rfl := oI H
   go_enter Tryz.func76, Tryz.ntmps76
   go_wp2_with (first | (refine bxe 2 #[.int .i64 a0_0, .slice A0_1 l0_1.length c0_1, .slice A0_2 l0_2.length c0_2] 59 ?_; intro gb11 hg w24 hbox hb; have BK11 := Aside0.mk (hbox); have GW11 := Aside0.mk (gwe hg : w.heap.size ≤ _); have GE11 := GW11; replace HB := hbs hb; clear hb hbox hg) | (refine bxe 3 #[.int .i64 a1_0, .slice A1_1 l1_1.length c1_1, .slice A1_2 l1_2.length c1_2] 59 ?_; intro gb12 hg w25 hbox hb; have BK12 := Aside0.mk (hbox); have GW12 := Aside0.mk (gwe hg : w.heap.size ≤ _); have GE12 := GW12; have NB11_12 := Aside0.mk (nbl hg BK11); have NB12_11 := Aside0.mk (nbg hg BK11); replace BK11 := kb BK11 hb; replace HB := hbs hb; clear hb hbox hg; have hnb26 := NB11_12.out; have hnc26 := NB12_11.out; obtain ⟨_, _, _, _, _, _⟩ := box3 BK11; obtain ⟨_, _, _, _, _, _⟩ := box3 BK12) | (refine gL 117 (some 14) Tryz.func117 #[.slice A0_1 l0_1.length c0_1, .slice A1_1 l1_1.length c1_1] ?_; refine (laws_eqFrameS.calls k _ _ l0_1 _ _ l1_1 false _ (cb HR0_1) HC0_1.out (cb HR1_1) HC1_1.out A4.out).mono ?_; rintro e w29 ⟨rfl, hb⟩; refine ⟨_, rfl, ?_⟩; replace BK11 := kb BK11 hb; replace BK12 := kb BK12 hb; replace HB := hbs hb; clear hb))
   go_ret
   exact ⟨rfe, bels⟩
 ·rw [if_neg c3] at H
  have c3b0 : (a0_0 == a1_0) = false := beq_eq_false_iff_ne.mpr c3
  have c3b1 : (a0_0 != a1_0) = true := bne_iff_ne.mpr c3
  obtain rfl := oI H
  go_enter Tryz.func76, Tryz.ntmps76
  go_wp2_with (first | (refine bxe 2 #[.int .i64 a0_0, .slice A0_1 l0_1.length c0_1, .slice A0_2 l0_2.length c0_2] 59 ?_; intro gb11 hg w30 hbox hb; have BK11 := Aside0.mk (hbox); have GW11 := Aside0.mk (gwe hg : w.heap.size ≤ _); have GE11 := GW11; replace HB := hbs hb; clear hb hbox hg) | (refine bxe 3 #[.int .i64 a1_0, .slice A1_1 l1_1.length c1_1, .slice A1_2 l1_2.length c1_2] 59 ?_; intro gb12 hg w31 hbox hb; have BK12 := Aside0.mk (hbox); have GW12 := Aside0.mk (gwe hg : w.heap.size ≤ _); have GE12 := GW12; have NB11_12 := Aside0.mk (nbl hg BK11); have NB12_11 := Aside0.mk (nbg hg BK11); replace BK11 := kb BK11 hb; replace HB := hbs hb; clear hb hbox hg; have hnb32 := NB11_12.out; have hnc32 := NB12_11.out; obtain ⟨_, _, _, _, _, _⟩ := box3 BK11; obtain ⟨_, _, _, _, _, _⟩ := box3 BK12))
  go_ret
  exact ⟨rfe, bels⟩

/-! ### laws_eqWarpS: function 40 -/
def laws_eqWarpS.l0 : Nat → List (S59) → List (S59) → Int → Option (Bool)
  | 0, _, _, _ => none
  | k + 1, x0, x1, x5 => if x5 < (x0.length : Int) then (if 0 ≤ x5 then (if x5 < (x1.length : Int) then ((laws_eqWarp.f k ((rd_T59 x0 x5).f0) ((rd_T59 x0 x5).f1) ((rd_T59 x0 x5).f2) ((rd_T59 x1 x5).f0) ((rd_T59 x1 x5).f1) ((rd_T59 x1 x5).f2)).bind fun t13 => (if t13 = true then (laws_eqWarpS.l0 k x0 x1 (wrap64 (x5 + 1))) else (some false))) else (none)) else (none)) else (some true)
def laws_eqWarpS.f (k : Nat) (l0 : List (S59)) (l1 : List (S59)) : Option (Bool) := if (l0.length : Int) = (l1.length : Int) then (laws_eqWarpS.l0 k l0 l1 0) else (some false)
def laws_eqWarpS.T6 : Bool × List (List Nat × List Nat) := (true, [([], []), ([], []), ([0, 1], [0, 1]), ([2], [2]), ([], []), ([], []), ([4, 5], [4, 5]), ([6], [6]), ([3, 7], [3, 7]), ([8], [8])])
def laws_eqWarpS.B6 : List Nat := [0, 0, 3, 7, 0, 0, 48, 112, 255, 511]
theorem laws_eqWarpS.tab6 : rtab .any (opsOf Tryz.f40 6) = laws_eqWarpS.T6 := by kernel_rfl
theorem laws_eqWarpS.bits6 : waitsOk laws_eqWarpS.T6.2 laws_eqWarpS.B6 = true := by kernel_rfl
set_option maxHeartbeats 8000000 in
set_option maxRecDepth 100000 in
theorem laws_eqWarpS.calls (k : Nat) (A0 : Option Addr) (c0 : Nat) (l0 : List (S59)) (A1 : Option Addr) (c1 : Nat) (l1 : List (S59)) (r : Bool) (w : World) (hr0 : Kd.C k59 w A0 l0.length l0) (hc0 : l0.length ≤ c0) (hr1 : Kd.C k59 w A1 l1.length l1) (hc1 : l1.length ≤ c1) (h : laws_eqWarpS.f k l0 l1 = some r) :
    Calls Tryz.prog 40 #[.slice A0 l0.length c0, .slice A1 l1.length c1] w fun e w' => e = .returned (.bool r) ∧ Below w.heap.size w w' := by
  have hu59 := Tryz.underlying59
  have HR0 := Aside0.mk hr0
  have HC0 := Aside0.mk hc0
  clear hr0 hc0
  have HR1 := Aside0.mk hr1
  have HC1 := Aside0.mk hc1
  clear hr1 hc1
  have HB := Aside0.mk (Below.refl w.heap.size w)
  have H : (if (l0.length : Int) = (l1.length : Int) then (laws_eqWarpS.l0 k l0 l1 0) else (some false)) = some r := h
  clear h
  by_cases c3 : (l0.length : Int) = (l1.length : Int)
  · rw [if_pos c3] at H
    have c3b0 : ((l0.length : Int) == (l1.length : Int)) = true := beq_iff_eq.mpr c3
    have c3b1 : ((l0.length : Int) != (l1.length : Int)) = false := bne_eq_false_iff_eq.mpr c3
    have c3b2 : (l0.length == l1.length) = true := by first | simpa using c3 | (simp at c3 ⊢; omega)
    clear c3
    have H' := Aside0.mk H
    clear H
    go_enter Tryz.func40, Tryz.ntmps40
    go_wp2
    go_loopg [5] k (fun kq v5 w' => ∃ (x5_1 : Int), v5 = .int .i64 x5_1 ∧ Aside0 (laws_eqWarpS.l0 kq l0 l1 x5_1 = some r) ∧ Aside0 (kq ≤ k) ∧ Aside0 (Below w.heap.size w w'))
    case atStart => exact ⟨(0), (by first | rfl | (simp; done) | (simp [*]; done)), H', ⟨Nat.le_refl _⟩, ⟨by repeat (first | (with_reducible first | exact HB.out | apply below_alloc | apply pw_below_drewN | apply below_drew1) | exact HB.out)⟩⟩
    case round =>
      clear H'
      try clear c1
      try clear p2
      try clear c3
      try clear c3b0
      try clear c3b1
      try clear c3b2
      obtain ⟨x5_1, rfl, HA, HK1, HB⟩ := hrel
      cases gk with
      | zero => exact absurd HA.out (by simp [laws_eqWarpS.l0])
      | succ k1 =>
        have H := HA.out
        clear HA
        simp only [laws_eqWarpS.l0] at H
        by_cases c4 : x5_1 < (l0.length : Int)
        · rw [if_pos c4] at H
          have c4b0 : decide (x5_1 < (l0.length : Int)) = true := decide_eq_true c4
          clear c4
          by_cases c5 : 0 ≤ x5_1
          · rw [if_pos c5] at H
            have c5b0 : decide (0 ≤ x5_1) = true := decide_eq_true c5
            clear c5
            by_cases c6 : x5_1 < (l1.length : Int)
            · rw [if_pos c6] at H
              have c6b0 : decide (x5_1 < (l1.length : Int)) = true := decide_eq_true c6
              clear c6
              replace H := Option.bind_eq_some_iff.mp H
              obtain ⟨t13, A70, H⟩ := H
              replace H : (if t13 = true then (laws_eqWarpS.l0 k1 l0 l1 (wrap64 (x5_1 + 1))) else (some false)) = some r := H
              have A7 := Aside0.mk A70
              clear A70
              by_cases c8 : t13 = true
              · subst c8
                have H1 : (laws_eqWarpS.l0 k1 l0 l1 (wrap64 (x5_1 + 1))) = some r := by rw [if_pos rfl] at H; exact H
                clear H
                have H := H1
                clear H1
                have H' := Aside0.mk H
                clear H
                try go_wp2
                have n0_ := Aside0.mk (below_drew1 HB.out)
                clear HB
                have HB := n0_
                clear n0_
                have p11 : 0 ≤ (x5_1 : Int) := of_decide_eq_true (by first | (with_reducible assumption) | assumption)
                have q11 : x5_1 < (l0.length : Int) := of_decide_eq_true (by first | (with_reducible assumption) | assumption)
                obtain ⟨ad11, A11_1, c11_1, A11_2, c11_2, e11, hx11_0, hx11_1, hx11_2, hl11_1, hi11_1, hl11_2, hi11_2⟩ := at_T59 HR0.out x5_1 p11 q11
                have hw11_2 := hx11_2
                have hw11_1 := hx11_1
                have hw11_0 := hx11_0
                cases e11
                replace hx11_0 := (HB.out.cell (World.block_lt_of_cell? w _ hx11_0)).trans hx11_0
                replace hx11_1 := (HB.out.cell (World.block_lt_of_cell? w _ hx11_1)).trans hx11_1
                replace hx11_2 := (HB.out.cell (World.block_lt_of_cell? w _ hx11_2)).trans hx11_2
                have HR11_1 := Aside0.mk hi11_1
                have HC11_1 := Aside0.mk hl11_1
                clear hi11_1 hl11_1
                have HR11_2 := Aside0.mk hi11_2
                have HC11_2 := Aside0.mk hl11_2
                clear hi11_2 hl11_2
                replace p11 := eq_true p11
                replace q11 := eq_true q11
                have p12 : 0 ≤ (x5_1 : Int) := of_decide_eq_true (by first | (with_reducible assumption) | assumption)
                have q12 : x5_1 < (l1.length : Int) := of_decide_eq_true (by first | (with_reducible assumption) | assumption)
                obtain ⟨ad12, A12_1, c12_1, A12_2, c12_2, e12, hx12_0, hx12_1, hx12_2, hl12_1, hi12_1, hl12_2, hi12_2⟩ := at_T59 HR1.out x5_1 p12 q12
                have hw12_2 := hx12_2
                have hw12_1 := hx12_1
                have hw12_0 := hx12_0
                cases e12
                replace hx12_0 := (HB.out.cell (World.block_lt_of_cell? w _ hx12_0)).trans hx12_0
                replace hx12_1 := (HB.out.cell (World.block_lt_of_cell? w _ hx12_1)).trans hx12_1
                replace hx12_2 := (HB.out.cell (World.block_lt_of_cell? w _ hx12_2)).trans hx12_2
                have HR12_1 := Aside0.mk hi12_1
                have HC12_1 := Aside0.mk hl12_1
                clear hi12_1 hl12_1
                have HR12_2 := Aside0.mk hi12_2
                have HC12_2 := Aside0.mk hl12_2
                clear hi12_2 hl12_2
                replace p12 := eq_true p12
                replace q12 := eq_true q12
                refine start_ (n := 10) (S := fun w' => w'.cell? (ad11.add ((x5_1).toNat * 3)) = some (.int .i64 ((rd_T59 l0 x5_1).f0)) ∧ w'.cell? ⟨(ad11.add ((x5_1).toNat * 3)).block, (ad11.add ((x5_1).toNat * 3)).off + 1, none⟩ = some (.slice A11_1 ((rd_T59 l0 x5_1).f1).length c11_1) ∧ w'.cell? ⟨(ad11.add ((x5_1).toNat * 3)).block, (ad11.add ((x5_1).toNat * 3)).off + 2, none⟩ = some (.slice A11_2 ((rd_T59 l0 x5_1).f2).length c11_2) ∧ w'.cell? (ad12.add ((x5_1).toNat * 3)) = some (.int .i64 ((rd_T59 l1 x5_1).f0)) ∧ w'.cell? ⟨(ad12.add ((x5_1).toNat * 3)).block, (ad12.add ((x5_1).toNat * 3)).off + 1, none⟩ = some (.slice A12_1 ((rd_T59 l1 x5_1).f1).length c12_1) ∧ w'.cell? ⟨(ad12.add ((x5_1).toNat * 3)).block, (ad12.add ((x5_1).toNat * 3)).off + 2, none⟩ = some (.slice A12_2 ((rd_T59 l1 x5_1).f2).length c12_2)) (ds := []) #[false, false, false, false, false, false, false, false, false, false] (by kernel_rfl) rfl rfl ⟨((HB.out.cell (World.block_lt_of_cell? w _ hw11_0)).trans hw11_0), ((HB.out.cell (World.block_lt_of_cell? w _ hw11_1)).trans hw11_1), ((HB.out.cell (World.block_lt_of_cell? w _ hw11_2)).trans hw11_2), ((HB.out.cell (World.block_lt_of_cell? w _ hw12_0)).trans hw12_0), ((HB.out.cell (World.block_lt_of_cell? w _ hw12_1)).trans hw12_1), ((HB.out.cell (World.block_lt_of_cell? w _ hw12_2)).trans hw12_2)⟩ (fun hHeld => ?_); refine with_tabW laws_eqWarpS.tab6 laws_eqWarpS.bits6 (fun HT_ HW_ => ?_)
                generalize wr.drew = w9 at HB HR11_1 HR11_2 HR12_1 HR12_2 hx11_0 hx11_1 hx11_2 hx12_0 hx12_1 hx12_2 hHeld ⊢
                refine pure_ (i := 0) (N := some 17) (v := ?_) (a' := ?_) #[true, false, false, false, false, false, false, false, false, false] rfl rfl (any_of HT_.out (by kernel_rfl)) (fun _ _ _ h => h) (Or.inl ⟨by rfl, ?_⟩) ?_ ?_
                rotate_left
                · intro w'
                  go_simp
                  with_reducible rfl
                rotate_left
                · simp only [Act.put, List.setIfInBounds_toArray, List.set_cons_zero, List.set_cons_succ, i64_w, i32_w]
                  rfl
                refine pure_ (i := 1) (N := some 18) (v := ?_) (a' := ?_) #[true, true, false, false, false, false, false, false, false, false] rfl rfl (any_of HT_.out (by kernel_rfl)) (fun _ _ _ h => h) (Or.inl ⟨by rfl, ?_⟩) ?_ ?_
                rotate_left
                · intro w'
                  go_simp
                  with_reducible rfl
                rotate_left
                · simp only [Act.put, List.setIfInBounds_toArray, List.set_cons_zero, List.set_cons_succ, i64_w, i32_w]
                  rfl
                refine pure_ (i := 2) (N := some 19) (v := ?_) (a' := ?_) #[true, true, true, false, false, false, false, false, false, false] rfl rfl (any_of HT_.out (by kernel_rfl)) (fun _ _ _ h => h) (Or.inl ⟨by rfl, ?_⟩) ?_ ?_
                rotate_left
                · intro w'
                  go_simp
                  with_reducible rfl
                rotate_left
                · simp only [Act.put, List.setIfInBounds_toArray, List.set_cons_zero, List.set_cons_succ, i64_w, i32_w]
                  rfl
                refine pure_ (i := 4) (N := some 21) (v := ?_) (a' := ?_) #[true, true, true, false, true, false, false, false, false, false] rfl rfl (any_of HT_.out (by kernel_rfl)) (fun _ _ _ h => h) (Or.inl ⟨by rfl, ?_⟩) ?_ ?_
                rotate_left
                · intro w'
                  go_simp
                  with_reducible rfl
                rotate_left
                · simp only [Act.put, List.setIfInBounds_toArray, List.set_cons_zero, List.set_cons_succ, i64_w, i32_w]
                  rfl
                refine pure_ (i := 5) (N := some 22) (v := ?_) (a' := ?_) #[true, true, true, false, true, true, false, false, false, false] rfl rfl (any_of HT_.out (by kernel_rfl)) (fun _ _ _ h => h) (Or.inl ⟨by rfl, ?_⟩) ?_ ?_
                rotate_left
                · intro w'
                  go_simp
                  with_reducible rfl
                rotate_left
                · simp only [Act.put, List.setIfInBounds_toArray, List.set_cons_zero, List.set_cons_succ, i64_w, i32_w]
                  rfl
                refine pure_ (i := 6) (N := some 23) (v := ?_) (a' := ?_) #[true, true, true, false, true, true, true, false, false, false] rfl rfl (any_of HT_.out (by kernel_rfl)) (fun _ _ _ h => h) (Or.inl ⟨by rfl, ?_⟩) ?_ ?_
                rotate_left
                · intro w'
                  go_simp
                  with_reducible rfl
                rotate_left
                · simp only [Act.put, List.setIfInBounds_toArray, List.set_cons_zero, List.set_cons_succ, i64_w, i32_w]
                  rfl
                refine take_ (i := 3) (N := some 20) (v := ?_) (a' := ?_) #[true, true, true, true, true, true, true, false, false, false] rfl rfl (take_ofW HT_.out HW_.out (by kernel_rfl)) (fun _ _ _ h => h) (Or.inl ⟨by rfl, ?_⟩) hHeld ?_ ?_
                rotate_left
                · rintro w' ⟨s0, s1, s2, s3, s4, s5⟩
                  go_simp
                  with_reducible rfl
                rotate_left
                · simp only [Act.put, List.setIfInBounds_toArray, List.set_cons_zero, List.set_cons_succ, i64_w, i32_w]
                  rfl
                refine take_ (i := 7) (N := some 24) (v := ?_) (a' := ?_) #[true, true, true, true, true, true, true, true, false, false] rfl rfl (take_ofW HT_.out HW_.out (by kernel_rfl)) (fun _ _ _ h => h) (Or.inl ⟨by rfl, ?_⟩) hHeld ?_ ?_
                rotate_left
                · rintro w' ⟨s0, s1, s2, s3, s4, s5⟩
                  go_simp
                  with_reducible rfl
                rotate_left
                · simp only [Act.put, List.setIfInBounds_toArray, List.set_cons_zero, List.set_cons_succ, i64_w, i32_w]
                  rfl
                refine one_ (i := 8) (N := some 25) #[true, true, true, true, true, true, true, true, true, false] rfl rfl (one_of HT_.out (by kernel_rfl)) (by decide) (fun K hK => ?_)
                refine goes_ Tryz.func76 (by kernel_rfl) rfl #[.agg #[.int .i64 ((rd_T59 l0 x5_1).f0), .slice A11_1 ((rd_T59 l0 x5_1).f1).length c11_1, .slice A11_2 ((rd_T59 l0 x5_1).f2).length c11_2], .agg #[.int .i64 ((rd_T59 l1 x5_1).f0), .slice A12_1 ((rd_T59 l1 x5_1).f1).length c12_1, .slice A12_2 ((rd_T59 l1 x5_1).f2).length c12_2]] (by rfl) rfl rfl (by (try simp only [List.map_toArray, List.map_cons, List.map_nil]); first | done | rfl | (simp only [List.length_drop, List.length_take]; rfl)) ?_
                with_reducible refine (laws_eqWarp.calls k1 ((rd_T59 l0 x5_1).f0) _ _ ((rd_T59 l0 x5_1).f1) _ _ ((rd_T59 l0 x5_1).f2) ((rd_T59 l1 x5_1).f0) _ _ ((rd_T59 l1 x5_1).f1) _ _ ((rd_T59 l1 x5_1).f2) true _ ?side1 ?side2 ?side3 ?side4 ?side5 ?side6 ?side7 ?side8 A7.out).mono ?_
                (case side1 => repeat (first | exact (Kd.C_below HR11_1.out HB.out) | (with_reducible refine Kd.C_alloc ?_ _) | (with_reducible refine Kd.C_drewN ?_ _) | (with_reducible refine Kd.C_drew ?_)))
                (case side2 => exact HC11_1.out)
                (case side3 => repeat (first | exact (Kd.C_below HR11_2.out HB.out) | (with_reducible refine Kd.C_alloc ?_ _) | (with_reducible refine Kd.C_drewN ?_ _) | (with_reducible refine Kd.C_drew ?_)))
                (case side4 => exact HC11_2.out)
                (case side5 => repeat (first | exact (Kd.C_below HR12_1.out HB.out) | (with_reducible refine Kd.C_alloc ?_ _) | (with_reducible refine Kd.C_drewN ?_ _) | (with_reducible refine Kd.C_drew ?_)))
                (case side6 => exact HC12_1.out)
                (case side7 => repeat (first | exact (Kd.C_below HR12_2.out HB.out) | (with_reducible refine Kd.C_alloc ?_ _) | (with_reducible refine Kd.C_drewN ?_ _) | (with_reducible refine Kd.C_drew ?_)))
                (case side8 => exact HC12_2.out)
                rintro e w10 ⟨rfl, hb⟩
                refine ⟨_, rfl, ?_⟩
                have n0_ := Aside0.mk (below_step (by repeat (first | (with_reducible first | exact HB.out | apply below_alloc | apply pw_below_drewN | apply below_drew1) | exact HB.out)) hb)
                clear HB
                have HB := n0_
                clear n0_
                (try clear hb)
                (try clear hb2)
                (try clear hk)
                (try clear hi)
                refine hK.out _ _ ⟨((HB.out.cell (World.block_lt_of_cell? w _ hw11_0)).trans hw11_0), ((HB.out.cell (World.block_lt_of_cell? w _ hw11_1)).trans hw11_1), ((HB.out.cell (World.block_lt_of_cell? w _ hw11_2)).trans hw11_2), ((HB.out.cell (World.block_lt_of_cell? w _ hw12_0)).trans hw12_0), ((HB.out.cell (World.block_lt_of_cell? w _ hw12_1)).trans hw12_1), ((HB.out.cell (World.block_lt_of_cell? w _ hw12_2)).trans hw12_2)⟩ (fun hHeld => ?_)
                clear hK K
                refine norm_ (a' := ?_) ?_ ?_
                rotate_left
                · show Act.put _ (some 25) _ = _
                  simp only [Act.put, List.setIfInBounds_toArray, List.set_cons_zero, List.set_cons_succ, i64_w, i32_w]
                  rfl
                refine pure_ (i := 9) (N := some 26) (v := ?_) (a' := ?_) #[true, true, true, true, true, true, true, true, true, true] rfl rfl (any_of HT_.out (by kernel_rfl)) (fun _ _ _ h => h) (Or.inl ⟨by rfl, ?_⟩) ?_ ?_
                rotate_left
                · intro w'
                  go_simp
                  with_reducible rfl
                rotate_left
                · simp only [Act.put, List.setIfInBounds_toArray, List.set_cons_zero, List.set_cons_succ, i64_w, i32_w]
                  rfl
                refine done_ (done_of HT_.out (by kernel_rfl)) ?_
                try go_wp2
                go_roundg k1
                case measure => have := HK1.out; omega
                case rel => exact ⟨(wrap64 (x5_1 + 1)), (by first | rfl | (simp; done) | (simp [*]; done)), H', ⟨by have := HK1.out; omega⟩, ⟨by repeat (first | (with_reducible first | exact HB.out | apply below_alloc | apply pw_below_drewN | apply below_drew1) | exact HB.out)⟩⟩
              · replace c8 := Bool.eq_false_iff.mpr c8
                subst c8
                have H1 : (some false) = some r := by rw [if_neg (show ¬ (false = true) by decide)] at H; exact H
                clear H
                have H := H1
                clear H1
                obtain rfl := Option.some.inj H
                try go_wp2
                have n0_ := Aside0.mk (below_drew1 HB.out)
                clear HB
                have HB := n0_
                clear n0_
                have p11 : 0 ≤ (x5_1 : Int) := of_decide_eq_true (by first | (with_reducible assumption) | assumption)
                have q11 : x5_1 < (l0.length : Int) := of_decide_eq_true (by first | (with_reducible assumption) | assumption)
                obtain ⟨ad11, A11_1, c11_1, A11_2, c11_2, e11, hx11_0, hx11_1, hx11_2, hl11_1, hi11_1, hl11_2, hi11_2⟩ := at_T59 HR0.out x5_1 p11 q11
                have hw11_2 := hx11_2
                have hw11_1 := hx11_1
                have hw11_0 := hx11_0
                cases e11
                replace hx11_0 := (HB.out.cell (World.block_lt_of_cell? w _ hx11_0)).trans hx11_0
                replace hx11_1 := (HB.out.cell (World.block_lt_of_cell? w _ hx11_1)).trans hx11_1
                replace hx11_2 := (HB.out.cell (World.block_lt_of_cell? w _ hx11_2)).trans hx11_2
                have HR11_1 := Aside0.mk hi11_1
                have HC11_1 := Aside0.mk hl11_1
                clear hi11_1 hl11_1
                have HR11_2 := Aside0.mk hi11_2
                have HC11_2 := Aside0.mk hl11_2
                clear hi11_2 hl11_2
                replace p11 := eq_true p11
                replace q11 := eq_true q11
                have p12 : 0 ≤ (x5_1 : Int) := of_decide_eq_true (by first | (with_reducible assumption) | assumption)
                have q12 : x5_1 < (l1.length : Int) := of_decide_eq_true (by first | (with_reducible assumption) | assumption)
                obtain ⟨ad12, A12_1, c12_1, A12_2, c12_2, e12, hx12_0, hx12_1, hx12_2, hl12_1, hi12_1, hl12_2, hi12_2⟩ := at_T59 HR1.out x5_1 p12 q12
                have hw12_2 := hx12_2
                have hw12_1 := hx12_1
                have hw12_0 := hx12_0
                cases e12
                replace hx12_0 := (HB.out.cell (World.block_lt_of_cell? w _ hx12_0)).trans hx12_0
                replace hx12_1 := (HB.out.cell (World.block_lt_of_cell? w _ hx12_1)).trans hx12_1
                replace hx12_2 := (HB.out.cell (World.block_lt_of_cell? w _ hx12_2)).trans hx12_2
                have HR12_1 := Aside0.mk hi12_1
                have HC12_1 := Aside0.mk hl12_1
                clear hi12_1 hl12_1
                have HR12_2 := Aside0.mk hi12_2
                have HC12_2 := Aside0.mk hl12_2
                clear hi12_2 hl12_2
                replace p12 := eq_true p12
                replace q12 := eq_true q12
                refine start_ (n := 10) (S := fun w' => w'.cell? (ad11.add ((x5_1).toNat * 3)) = some (.int .i64 ((rd_T59 l0 x5_1).f0)) ∧ w'.cell? ⟨(ad11.add ((x5_1).toNat * 3)).block, (ad11.add ((x5_1).toNat * 3)).off + 1, none⟩ = some (.slice A11_1 ((rd_T59 l0 x5_1).f1).length c11_1) ∧ w'.cell? ⟨(ad11.add ((x5_1).toNat * 3)).block, (ad11.add ((x5_1).toNat * 3)).off + 2, none⟩ = some (.slice A11_2 ((rd_T59 l0 x5_1).f2).length c11_2) ∧ w'.cell? (ad12.add ((x5_1).toNat * 3)) = some (.int .i64 ((rd_T59 l1 x5_1).f0)) ∧ w'.cell? ⟨(ad12.add ((x5_1).toNat * 3)).block, (ad12.add ((x5_1).toNat * 3)).off + 1, none⟩ = some (.slice A12_1 ((rd_T59 l1 x5_1).f1).length c12_1) ∧ w'.cell? ⟨(ad12.add ((x5_1).toNat * 3)).block, (ad12.add ((x5_1).toNat * 3)).off + 2, none⟩ = some (.slice A12_2 ((rd_T59 l1 x5_1).f2).length c12_2)) (ds := []) #[false, false, false, false, false, false, false, false, false, false] (by kernel_rfl) rfl rfl ⟨((HB.out.cell (World.block_lt_of_cell? w _ hw11_0)).trans hw11_0), ((HB.out.cell (World.block_lt_of_cell? w _ hw11_1)).trans hw11_1), ((HB.out.cell (World.block_lt_of_cell? w _ hw11_2)).trans hw11_2), ((HB.out.cell (World.block_lt_of_cell? w _ hw12_0)).trans hw12_0), ((HB.out.cell (World.block_lt_of_cell? w _ hw12_1)).trans hw12_1), ((HB.out.cell (World.block_lt_of_cell? w _ hw12_2)).trans hw12_2)⟩ (fun hHeld => ?_); refine with_tabW laws_eqWarpS.tab6 laws_eqWarpS.bits6 (fun HT_ HW_ => ?_)
                generalize wr.drew = w11 at HB HR11_1 HR11_2 HR12_1 HR12_2 hx11_0 hx11_1 hx11_2 hx12_0 hx12_1 hx12_2 hHeld ⊢
                refine pure_ (i := 0) (N := some 17) (v := ?_) (a' := ?_) #[true, false, false, false, false, false, false, false, false, false] rfl rfl (any_of HT_.out (by kernel_rfl)) (fun _ _ _ h => h) (Or.inl ⟨by rfl, ?_⟩) ?_ ?_
                rotate_left
                · intro w'
                  go_simp
                  with_reducible rfl
                rotate_left
                · simp only [Act.put, List.setIfInBounds_toArray, List.set_cons_zero, List.set_cons_succ, i64_w, i32_w]
                  rfl
                refine pure_ (i := 1) (N := some 18) (v := ?_) (a' := ?_) #[true, true, false, false, false, false, false, false, false, false] rfl rfl (any_of HT_.out (by kernel_rfl)) (fun _ _ _ h => h) (Or.inl ⟨by rfl, ?_⟩) ?_ ?_
                rotate_left
                · intro w'
                  go_simp
                  with_reducible rfl
                rotate_left
                · simp only [Act.put, List.setIfInBounds_toArray, List.set_cons_zero, List.set_cons_succ, i64_w, i32_w]
                  rfl
                refine pure_ (i := 2) (N := some 19) (v := ?_) (a' := ?_) #[true, true, true, false, false, false, false, false, false, false] rfl rfl (any_of HT_.out (by kernel_rfl)) (fun _ _ _ h => h) (Or.inl ⟨by rfl, ?_⟩) ?_ ?_
                rotate_left
                · intro w'
                  go_simp
                  with_reducible rfl
                rotate_left
                · simp only [Act.put, List.setIfInBounds_toArray, List.set_cons_zero, List.set_cons_succ, i64_w, i32_w]
                  rfl
                refine pure_ (i := 4) (N := some 21) (v := ?_) (a' := ?_) #[true, true, true, false, true, false, false, false, false, false] rfl rfl (any_of HT_.out (by kernel_rfl)) (fun _ _ _ h => h) (Or.inl ⟨by rfl, ?_⟩) ?_ ?_
                rotate_left
                · intro w'
                  go_simp
                  with_reducible rfl
                rotate_left
                · simp only [Act.put, List.setIfInBounds_toArray, List.set_cons_zero, List.set_cons_succ, i64_w, i32_w]
                  rfl
                refine pure_ (i := 5) (N := some 22) (v := ?_) (a' := ?_) #[true, true, true, false, true, true, false, false, false, false] rfl rfl (any_of HT_.out (by kernel_rfl)) (fun _ _ _ h => h) (Or.inl ⟨by rfl, ?_⟩) ?_ ?_
                rotate_left
                · intro w'
                  go_simp
                  with_reducible rfl
                rotate_left
                · simp only [Act.put, List.setIfInBounds_toArray, List.set_cons_zero, List.set_cons_succ, i64_w, i32_w]
                  rfl
                refine pure_ (i := 6) (N := some 23) (v := ?_) (a' := ?_) #[true, true, true, false, true, true, true, false, false, false] rfl rfl (any_of HT_.out (by kernel_rfl)) (fun _ _ _ h => h) (Or.inl ⟨by rfl, ?_⟩) ?_ ?_
                rotate_left
                · intro w'
                  go_simp
                  with_reducible rfl
                rotate_left
                · simp only [Act.put, List.setIfInBounds_toArray, List.set_cons_zero, List.set_cons_succ, i64_w, i32_w]
                  rfl
                refine take_ (i := 3) (N := some 20) (v := ?_) (a' := ?_) #[true, true, true, true, true, true, true, false, false, false] rfl rfl (take_ofW HT_.out HW_.out (by kernel_rfl)) (fun _ _ _ h => h) (Or.inl ⟨by rfl, ?_⟩) hHeld ?_ ?_
                rotate_left
                · rintro w' ⟨s0, s1, s2, s3, s4, s5⟩
                  go_simp
                  with_reducible rfl
                rotate_left
                · simp only [Act.put, List.setIfInBounds_toArray, List.set_cons_zero, List.set_cons_succ, i64_w, i32_w]
                  rfl
                refine take_ (i := 7) (N := some 24) (v := ?_) (a' := ?_) #[true, true, true, true, true, true, true, true, false, false] rfl rfl (take_ofW HT_.out HW_.out (by kernel_rfl)) (fun _ _ _ h => h) (Or.inl ⟨by rfl, ?_⟩) hHeld ?_ ?_
                rotate_left
                · rintro w' ⟨s0, s1, s2, s3, s4, s5⟩
                  go_simp
                  with_reducible rfl
                rotate_left
                · simp only [Act.put, List.setIfInBounds_toArray, List.set_cons_zero, List.set_cons_succ, i64_w, i32_w]
                  rfl
                refine one_ (i := 8) (N := some 25) #[true, true, true, true, true, true, true, true, true, false] rfl rfl (one_of HT_.out (by kernel_rfl)) (by decide) (fun K hK => ?_)
                refine goes_ Tryz.func76 (by kernel_rfl) rfl #[.agg #[.int .i64 ((rd_T59 l0 x5_1).f0), .slice A11_1 ((rd_T59 l0 x5_1).f1).length c11_1, .slice A11_2 ((rd_T59 l0 x5_1).f2).length c11_2], .agg #[.int .i64 ((rd_T59 l1 x5_1).f0), .slice A12_1 ((rd_T59 l1 x5_1).f1).length c12_1, .slice A12_2 ((rd_T59 l1 x5_1).f2).length c12_2]] (by rfl) rfl rfl (by (try simp only [List.map_toArray, List.map_cons, List.map_nil]); first | done | rfl | (simp only [List.length_drop, List.length_take]; rfl)) ?_
                with_reducible refine (laws_eqWarp.calls k1 ((rd_T59 l0 x5_1).f0) _ _ ((rd_T59 l0 x5_1).f1) _ _ ((rd_T59 l0 x5_1).f2) ((rd_T59 l1 x5_1).f0) _ _ ((rd_T59 l1 x5_1).f1) _ _ ((rd_T59 l1 x5_1).f2) false _ ?side1 ?side2 ?side3 ?side4 ?side5 ?side6 ?side7 ?side8 A7.out).mono ?_
                (case side1 => repeat (first | exact (Kd.C_below HR11_1.out HB.out) | (with_reducible refine Kd.C_alloc ?_ _) | (with_reducible refine Kd.C_drewN ?_ _) | (with_reducible refine Kd.C_drew ?_)))
                (case side2 => exact HC11_1.out)
                (case side3 => repeat (first | exact (Kd.C_below HR11_2.out HB.out) | (with_reducible refine Kd.C_alloc ?_ _) | (with_reducible refine Kd.C_drewN ?_ _) | (with_reducible refine Kd.C_drew ?_)))
                (case side4 => exact HC11_2.out)
                (case side5 => repeat (first | exact (Kd.C_below HR12_1.out HB.out) | (with_reducible refine Kd.C_alloc ?_ _) | (with_reducible refine Kd.C_drewN ?_ _) | (with_reducible refine Kd.C_drew ?_)))
                (case side6 => exact HC12_1.out)
                (case side7 => repeat (first | exact (Kd.C_below HR12_2.out HB.out) | (with_reducible refine Kd.C_alloc ?_ _) | (with_reducible refine Kd.C_drewN ?_ _) | (with_reducible refine Kd.C_drew ?_)))
                (case side8 => exact HC12_2.out)
                rintro e w12 ⟨rfl, hb⟩
                refine ⟨_, rfl, ?_⟩
                have n0_ := Aside0.mk (below_step (by repeat (first | (with_reducible first | exact HB.out | apply below_alloc | apply pw_below_drewN | apply below_drew1) | exact HB.out)) hb)
                clear HB
                have HB := n0_
                clear n0_
                (try clear hb)
                (try clear hb2)
                (try clear hk)
                (try clear hi)
                refine hK.out _ _ ⟨((HB.out.cell (World.block_lt_of_cell? w _ hw11_0)).trans hw11_0), ((HB.out.cell (World.block_lt_of_cell? w _ hw11_1)).trans hw11_1), ((HB.out.cell (World.block_lt_of_cell? w _ hw11_2)).trans hw11_2), ((HB.out.cell (World.block_lt_of_cell? w _ hw12_0)).trans hw12_0), ((HB.out.cell (World.block_lt_of_cell? w _ hw12_1)).trans hw12_1), ((HB.out.cell (World.block_lt_of_cell? w _ hw12_2)).trans hw12_2)⟩ (fun hHeld => ?_)
                clear hK K
                refine norm_ (a' := ?_) ?_ ?_
                rotate_left
                · show Act.put _ (some 25) _ = _
                  simp only [Act.put, List.setIfInBounds_toArray, List.set_cons_zero, List.set_cons_succ, i64_w, i32_w]
                  rfl
                refine pure_ (i := 9) (N := some 26) (v := ?_) (a' := ?_) #[true, true, true, true, true, true, true, true, true, true] rfl rfl (any_of HT_.out (by kernel_rfl)) (fun _ _ _ h => h) (Or.inl ⟨by rfl, ?_⟩) ?_ ?_
                rotate_left
                · intro w'
                  go_simp
                  with_reducible rfl
                rotate_left
                · simp only [Act.put, List.setIfInBounds_toArray, List.set_cons_zero, List.set_cons_succ, i64_w, i32_w]
                  rfl
                refine done_ (done_of HT_.out (by kernel_rfl)) ?_
                try go_wp2
                go_ret
                exact ⟨by first | rfl | (simp [errW_none, errW_some] <;> rfl) | (simp [*, errW_none, errW_some] <;> rfl), by repeat (first | (with_reducible first | exact HB.out | apply below_alloc | apply pw_below_drewN | apply below_drew1) | exact HB.out)⟩
            · rw [if_neg c6] at H
              exact absurd H (by simp)
          · rw [if_neg c5] at H
            exact absurd H (by simp)
        · rw [if_neg c4] at H
          have c4b0 : decide (x5_1 < (l0.length : Int)) = false := decide_eq_false c4
          clear c4
          obtain rfl := Option.some.inj H
          go_wp2
          go_ret
          exact ⟨by first | rfl | (simp [errW_none, errW_some] <;> rfl) | (simp [*, errW_none, errW_some] <;> rfl), by repeat (first | (with_reducible first | exact HB.out | apply below_alloc | apply pw_below_drewN | apply below_drew1) | exact HB.out)⟩
  · rw [if_neg c3] at H
    have c3b0 : ((l0.length : Int) == (l1.length : Int)) = false := beq_eq_false_iff_ne.mpr c3
    have c3b1 : ((l0.length : Int) != (l1.length : Int)) = true := bne_iff_ne.mpr c3
    have c3b2 : (l0.length == l1.length) = false := by first | simpa using c3 | (simp at c3 ⊢; omega)
    obtain rfl := Option.some.inj H
    go_enter Tryz.func40, Tryz.ntmps40
    go_wp2
    go_ret
    exact ⟨by first | rfl | (simp [errW_none, errW_some] <;> rfl) | (simp [*, errW_none, errW_some] <;> rfl), by repeat (first | (with_reducible first | exact HB.out | apply below_alloc | apply pw_below_drewN | apply below_drew1) | exact HB.out)⟩

/-! ### laws_eqBlock: function 11 -/
def laws_eqBlock.f (k : Nat) (l0_0 : List (S95)) (l0_1 : List (S59)) (l0_2 : List Int) (a0_3 : Int) (a0_4 : Int) (l1_0 : List (S95)) (l1_1 : List (S59)) (l1_2 : List Int) (a1_3 : Int) (a1_4 : Int) : Option (Bool) := (laws_eqInsS.f k l0_0 l1_0).bind fun t13 => (if t13 = true then ((laws_eqWarpS.f k l0_1 l1_1).bind fun t14 => (if t14 = true then ((laws_eqIntS.f k l0_2 l1_2).bind fun t15 => (if t15 = true then (if a0_3 = a1_3 then (if a0_4 = a1_4 then (some true) else (some false)) else (some false)) else (some false))) else (some false))) else (some false))
set_option maxHeartbeats 8000000 in
set_option maxRecDepth 100000 in
theorem laws_eqBlock.calls (k : Nat) (A0_0 : Option Addr) (c0_0 : Nat) (l0_0 : List (S95)) (A0_1 : Option Addr) (c0_1 : Nat) (l0_1 : List (S59)) (A0_2 : Option Addr) (c0_2 : Nat) (l0_2 : List Int) (a0_3 : Int) (a0_4 : Int) (A1_0 : Option Addr) (c1_0 : Nat) (l1_0 : List (S95)) (A1_1 : Option Addr) (c1_1 : Nat) (l1_1 : List (S59)) (A1_2 : Option Addr) (c1_2 : Nat) (l1_2 : List Int) (a1_3 : Int) (a1_4 : Int) (r : Bool) (w : World) (hr0_0 : Kd.C k95 w A0_0 l0_0.length l0_0) (hc0_0 : l0_0.length ≤ c0_0) (hr0_1 : Kd.C k59 w A0_1 l0_1.length l0_1) (hc0_1 : l0_1.length ≤ c0_1) (hr0_2 : Kd.C (Kd.int .i64) w A0_2 l0_2.length l0_2) (hc0_2 : l0_2.length ≤ c0_2) (hr1_0 : Kd.C k95 w A1_0 l1_0.length l1_0) (hc1_0 : l1_0.length ≤ c1_0) (hr1_1 : Kd.C k59 w A1_1 l1_1.length l1_1) (hc1_1 : l1_1.length ≤ c1_1) (hr1_2 : Kd.C (Kd.int .i64) w A1_2 l1_2.length l1_2) (hc1_2 : l1_2.length ≤ c1_2) (h : laws_eqBlock.f k l0_0 l0_1 l0_2 a0_3 a0_4 l1_0 l1_1 l1_2 a1_3 a1_4 = some r) :
  Calls Tryz.prog 11 #[.agg #[.slice A0_0 l0_0.length c0_0, .slice A0_1 l0_1.length c0_1, .slice A0_2 l0_2.length c0_2, .int .i64 a0_3, .int .i64 a0_4], .agg #[.slice A1_0 l1_0.length c1_0, .slice A1_1 l1_1.length c1_1, .slice A1_2 l1_2.length c1_2, .int .i64 a1_3, .int .i64 a1_4]] w fun e w' => e = .returned (.bool r) ∧ Below w.heap.size w w' := by
 have hu33 := Tryz.underlying33; have HR0_0 := Aside0.mk hr0_0; have HC0_0 := Aside0.mk hc0_0; clear hr0_0 hc0_0; have HR0_1 := Aside0.mk hr0_1; have HC0_1 := Aside0.mk hc0_1; clear hr0_1 hc0_1; have HR0_2 := Aside0.mk hr0_2; have HC0_2 := Aside0.mk hc0_2; clear hr0_2 hc0_2; have HR1_0 := Aside0.mk hr1_0; have HC1_0 := Aside0.mk hc1_0; clear hr1_0 hc1_0; have HR1_1 := Aside0.mk hr1_1; have HC1_1 := Aside0.mk hc1_1; clear hr1_1 hc1_1; have HR1_2 := Aside0.mk hr1_2; have HC1_2 := Aside0.mk hc1_2; clear hr1_2 hc1_2; have HB := Aside0.mk (Below.refl w.heap.size w)
 have H : ((laws_eqInsS.f k l0_0 l1_0).bind fun t13 => (if t13 = true then ((laws_eqWarpS.f k l0_1 l1_1).bind fun t14 => (if t14 = true then ((laws_eqIntS.f k l0_2 l1_2).bind fun t15 => (if t15 = true then (if a0_3 = a1_3 then (if a0_4 = a1_4 then (some true) else (some false)) else (some false)) else (some false))) else (some false))) else (some false))) = some r := h
 clear h; obtain ⟨t13, A3, H⟩ := bnd H; (try dsimp only at H)
 by_cases c4 : t13 = true
 ·subst c4; rw [if_pos rfl] at H; obtain ⟨t14, A5, H⟩ := bnd H; (try dsimp only at H)
  by_cases c6 : t14 = true
  ·subst c6; rw [if_pos rfl] at H; obtain ⟨t15, A7, H⟩ := bnd H; (try dsimp only at H)
   by_cases c8 : t15 = true
   ·subst c8; rw [if_pos rfl] at H
    by_cases c9 : a0_3 = a1_3
    ·rw [if_pos c9] at H
     have c9b0 : (a0_3 == a1_3) = true := beq_iff_eq.mpr c9
     have c9b1 : (a0_3 != a1_3) = false := bne_eq_false_iff_eq.mpr c9
     clear c9
     by_cases c10 : a0_4 = a1_4
     ·rw [if_pos c10] at H
      have c10b0 : (a0_4 == a1_4) = true := beq_iff_eq.mpr c10
      have c10b1 : (a0_4 != a1_4) = false := bne_eq_false_iff_eq.mpr c10
      clear c10; obtain rfl := oI H
      go_enter Tryz.func11, Tryz.ntmps11
      go_wp2_with (first | (refine bxe 2 #[.slice A0_0 l0_0.length c0_0, .slice A0_1 l0_1.length c0_1, .slice A0_2 l0_2.length c0_2, .int .i64 a0_3, .int .i64 a0_4] 33 ?_; intro gb11 hg w11 hbox hb; have BK11 := Aside0.mk (hbox); have GW11 := Aside0.mk (gwe hg : w.heap.size ≤ _); have GE11 := GW11; replace HB := hbs hb; clear hb hbox hg) | (refine bxe 3 #[.slice A1_0 l1_0.length c1_0, .slice A1_1 l1_1.length c1_1, .slice A1_2 l1_2.length c1_2, .int .i64 a1_3, .int .i64 a1_4] 33 ?_; intro gb12 hg w12 hbox hb; have BK12 := Aside0.mk (hbox); have GW12 := Aside0.mk (gwe hg : w.heap.size ≤ _); have GE12 := GW12; have NB11_12 := Aside0.mk (nbl hg BK11); have NB12_11 := Aside0.mk (nbg hg BK11); replace BK11 := kb BK11 hb; replace HB := hbs hb; clear hb hbox hg; have hnb13 := NB11_12.out; have hnc13 := NB12_11.out; obtain ⟨_, _, _, _, _, _, _, _, _, _⟩ := box5 BK11; obtain ⟨_, _, _, _, _, _, _, _, _, _⟩ := box5 BK12) | (refine gL 39 (some 9) Tryz.func39 #[.slice A0_0 l0_0.length c0_0, .slice A1_0 l1_0.length c1_0] ?_; refine (laws_eqInsS.calls k _ _ l0_0 _ _ l1_0 true _ (cb HR0_0) HC0_0.out (cb HR1_0) HC1_0.out A3.out).mono ?_; rintro e w16 ⟨rfl, hb⟩; refine ⟨_, rfl, ?_⟩; replace BK11 := kb BK11 hb; replace BK12 := kb BK12 hb; replace HB := hbs hb; clear hb; obtain ⟨_, _, _, _, _, _, _, _, _, _⟩ := box5 BK11; obtain ⟨_, _, _, _, _, _, _, _, _, _⟩ := box5 BK12) | (refine gL 40 (some 15) Tryz.func40 #[.slice A0_1 l0_1.length c0_1, .slice A1_1 l1_1.length c1_1] ?_; refine (laws_eqWarpS.calls k _ _ l0_1 _ _ l1_1 true _ (cb HR0_1) HC0_1.out (cb HR1_1) HC1_1.out A5.out).mono ?_; rintro e w19 ⟨rfl, hb⟩; refine ⟨_, rfl, ?_⟩; replace BK11 := kb BK11 hb; replace BK12 := kb BK12 hb; replace HB := hbs hb; clear hb; obtain ⟨_, _, _, _, _, _, _, _, _, _⟩ := box5 BK11; obtain ⟨_, _, _, _, _, _, _, _, _, _⟩ := box5 BK12) | (refine gL 41 (some 21) Tryz.func41 #[.slice A0_2 l0_2.length c0_2, .slice A1_2 l1_2.length c1_2] ?_; refine (laws_eqIntS.calls k _ _ l0_2 _ _ l1_2 true _ (cb HR0_2) HC0_2.out (cb HR1_2) HC1_2.out A7.out).mono ?_; rintro e w' ⟨rfl, ⟨nd, rfl⟩⟩; refine ⟨_, rfl, ?_⟩))
      go_ret
      exact ⟨rfe, bels⟩
     ·rw [if_neg c10] at H
      have c10b0 : (a0_4 == a1_4) = false := beq_eq_false_iff_ne.mpr c10
      have c10b1 : (a0_4 != a1_4) = true := bne_iff_ne.mpr c10
      obtain rfl := oI H
      go_enter Tryz.func11, Tryz.ntmps11
      go_wp2_with (first | (refine bxe 2 #[.slice A0_0 l0_0.length c0_0, .slice A0_1 l0_1.length c0_1, .slice A0_2 l0_2.length c0_2, .int .i64 a0_3, .int .i64 a0_4] 33 ?_; intro gb11 hg w22 hbox hb; have BK11 := Aside0.mk (hbox); have GW11 := Aside0.mk (gwe hg : w.heap.size ≤ _); have GE11 := GW11; replace HB := hbs hb; clear hb hbox hg) | (refine bxe 3 #[.slice A1_0 l1_0.length c1_0, .slice A1_1 l1_1.length c1_1, .slice A1_2 l1_2.length c1_2, .int .i64 a1_3, .int .i64 a1_4] 33 ?_; intro gb12 hg w23 hbox hb; have BK12 := Aside0.mk (hbox); have GW12 := Aside0.mk (gwe hg : w.heap.size ≤ _); have GE12 := GW12; have NB11_12 := Aside0.mk (nbl hg BK11); have NB12_11 := Aside0.mk (nbg hg BK11); replace BK11 := kb BK11 hb; replace HB := hbs hb; clear hb hbox hg; have hnb24 := NB11_12.out; have hnc24 := NB12_11.out; obtain ⟨_, _, _, _, _, _, _, _, _, _⟩ := box5 BK11; obtain ⟨_, _, _, _, _, _, _, _, _, _⟩ := box5 BK12) | (refine gL 39 (some 9) Tryz.func39 #[.slice A0_0 l0_0.length c0_0, .slice A1_0 l1_0.length c1_0] ?_; refine (laws_eqInsS.calls k _ _ l0_0 _ _ l1_0 true _ (cb HR0_0) HC0_0.out (cb HR1_0) HC1_0.out A3.out).mono ?_; rintro e w27 ⟨rfl, hb⟩; refine ⟨_, rfl, ?_⟩; replace BK11 := kb BK11 hb; replace BK12 := kb BK12 hb; replace HB := hbs hb; clear hb; obtain ⟨_, _, _, _, _, _, _, _, _, _⟩ := box5 BK11; obtain ⟨_, _, _, _, _, _, _, _, _, _⟩ := box5 BK12) | (refine gL 40 (some 15) Tryz.func40 #[.slice A0_1 l0_1.length c0_1, .slice A1_1 l1_1.length c1_1] ?_; refine (laws_eqWarpS.calls k _ _ l0_1 _ _ l1_1 true _ (cb HR0_1) HC0_1.out (cb HR1_1) HC1_1.out A5.out).mono ?_; rintro e w30 ⟨rfl, hb⟩; refine ⟨_, rfl, ?_⟩; replace BK11 := kb BK11 hb; replace BK12 := kb BK12 hb; replace HB := hbs hb; clear hb; obtain ⟨_, _, _, _, _, _, _, _, _, _⟩ := box5 BK11; obtain ⟨_, _, _, _, _, _, _, _, _, _⟩ := box5 BK12) | (refine gL 41 (some 21) Tryz.func41 #[.slice A0_2 l0_2.length c0_2, .slice A1_2 l1_2.length c1_2] ?_; refine (laws_eqIntS.calls k _ _ l0_2 _ _ l1_2 true _ (cb HR0_2) HC0_2.out (cb HR1_2) HC1_2.out A7.out).mono ?_; rintro e w' ⟨rfl, ⟨nd, rfl⟩⟩; refine ⟨_, rfl, ?_⟩))
      go_ret
      exact ⟨rfe, bels⟩
    ·rw [if_neg c9] at H
     have c9b0 : (a0_3 == a1_3) = false := beq_eq_false_iff_ne.mpr c9
     have c9b1 : (a0_3 != a1_3) = true := bne_iff_ne.mpr c9
     obtain rfl := oI H
     go_enter Tryz.func11, Tryz.ntmps11
     go_wp2_with (first | (refine bxe 2 #[.slice A0_0 l0_0.length c0_0, .slice A0_1 l0_1.length c0_1, .slice A0_2 l0_2.length c0_2, .int .i64 a0_3, .int .i64 a0_4] 33 ?_; intro gb11 hg w33 hbox hb; have BK11 := Aside0.mk (hbox); have GW11 := Aside0.mk (gwe hg : w.heap.size ≤ _); have GE11 := GW11; replace HB := hbs hb; clear hb hbox hg) | (refine bxe 3 #[.slice A1_0 l1_0.length c1_0, .slice A1_1 l1_1.length c1_1, .slice A1_2 l1_2.length c1_2, .int .i64 a1_3, .int .i64 a1_4] 33 ?_; intro gb12 hg w34 hbox hb; have BK12 := Aside0.mk (hbox); have GW12 := Aside0.mk (gwe hg : w.heap.size ≤ _); have GE12 := GW12; have NB11_12 := Aside0.mk (nbl hg BK11); have NB12_11 := Aside0.mk (nbg hg BK11); replace BK11 := kb BK11 hb; replace HB := hbs hb; clear hb hbox hg; have hnb35 := NB11_12.out; have hnc35 := NB12_11.out; obtain ⟨_, _, _, _, _, _, _, _, _, _⟩ := box5 BK11; obtain ⟨_, _, _, _, _, _, _, _, _, _⟩ := box5 BK12) | (refine gL 39 (some 9) Tryz.func39 #[.slice A0_0 l0_0.length c0_0, .slice A1_0 l1_0.length c1_0] ?_; refine (laws_eqInsS.calls k _ _ l0_0 _ _ l1_0 true _ (cb HR0_0) HC0_0.out (cb HR1_0) HC1_0.out A3.out).mono ?_; rintro e w38 ⟨rfl, hb⟩; refine ⟨_, rfl, ?_⟩; replace BK11 := kb BK11 hb; replace BK12 := kb BK12 hb; replace HB := hbs hb; clear hb; obtain ⟨_, _, _, _, _, _, _, _, _, _⟩ := box5 BK11; obtain ⟨_, _, _, _, _, _, _, _, _, _⟩ := box5 BK12) | (refine gL 40 (some 15) Tryz.func40 #[.slice A0_1 l0_1.length c0_1, .slice A1_1 l1_1.length c1_1] ?_; refine (laws_eqWarpS.calls k _ _ l0_1 _ _ l1_1 true _ (cb HR0_1) HC0_1.out (cb HR1_1) HC1_1.out A5.out).mono ?_; rintro e w41 ⟨rfl, hb⟩; refine ⟨_, rfl, ?_⟩; replace BK11 := kb BK11 hb; replace BK12 := kb BK12 hb; replace HB := hbs hb; clear hb; obtain ⟨_, _, _, _, _, _, _, _, _, _⟩ := box5 BK11; obtain ⟨_, _, _, _, _, _, _, _, _, _⟩ := box5 BK12) | (refine gL 41 (some 21) Tryz.func41 #[.slice A0_2 l0_2.length c0_2, .slice A1_2 l1_2.length c1_2] ?_; refine (laws_eqIntS.calls k _ _ l0_2 _ _ l1_2 true _ (cb HR0_2) HC0_2.out (cb HR1_2) HC1_2.out A7.out).mono ?_; rintro e w' ⟨rfl, ⟨nd, rfl⟩⟩; refine ⟨_, rfl, ?_⟩))
     go_ret
     exact ⟨rfe, bels⟩
   ·replace c8 := Bool.eq_false_iff.mpr c8; subst c8; rw [if_neg (by decide)] at H; obtain rfl := oI H
    go_enter Tryz.func11, Tryz.ntmps11
    go_wp2_with (first | (refine bxe 2 #[.slice A0_0 l0_0.length c0_0, .slice A0_1 l0_1.length c0_1, .slice A0_2 l0_2.length c0_2, .int .i64 a0_3, .int .i64 a0_4] 33 ?_; intro gb11 hg w44 hbox hb; have BK11 := Aside0.mk (hbox); have GW11 := Aside0.mk (gwe hg : w.heap.size ≤ _); have GE11 := GW11; replace HB := hbs hb; clear hb hbox hg) | (refine bxe 3 #[.slice A1_0 l1_0.length c1_0, .slice A1_1 l1_1.length c1_1, .slice A1_2 l1_2.length c1_2, .int .i64 a1_3, .int .i64 a1_4] 33 ?_; intro gb12 hg w45 hbox hb; have BK12 := Aside0.mk (hbox); have GW12 := Aside0.mk (gwe hg : w.heap.size ≤ _); have GE12 := GW12; have NB11_12 := Aside0.mk (nbl hg BK11); have NB12_11 := Aside0.mk (nbg hg BK11); replace BK11 := kb BK11 hb; replace HB := hbs hb; clear hb hbox hg; have hnb46 := NB11_12.out; have hnc46 := NB12_11.out; obtain ⟨_, _, _, _, _, _, _, _, _, _⟩ := box5 BK11; obtain ⟨_, _, _, _, _, _, _, _, _, _⟩ := box5 BK12) | (refine gL 39 (some 9) Tryz.func39 #[.slice A0_0 l0_0.length c0_0, .slice A1_0 l1_0.length c1_0] ?_; refine (laws_eqInsS.calls k _ _ l0_0 _ _ l1_0 true _ (cb HR0_0) HC0_0.out (cb HR1_0) HC1_0.out A3.out).mono ?_; rintro e w49 ⟨rfl, hb⟩; refine ⟨_, rfl, ?_⟩; replace BK11 := kb BK11 hb; replace BK12 := kb BK12 hb; replace HB := hbs hb; clear hb; obtain ⟨_, _, _, _, _, _, _, _, _, _⟩ := box5 BK11; obtain ⟨_, _, _, _, _, _, _, _, _, _⟩ := box5 BK12) | (refine gL 40 (some 15) Tryz.func40 #[.slice A0_1 l0_1.length c0_1, .slice A1_1 l1_1.length c1_1] ?_; refine (laws_eqWarpS.calls k _ _ l0_1 _ _ l1_1 true _ (cb HR0_1) HC0_1.out (cb HR1_1) HC1_1.out A5.out).mono ?_; rintro e w52 ⟨rfl, hb⟩; refine ⟨_, rfl, ?_⟩; replace BK11 := kb BK11 hb; replace BK12 := kb BK12 hb; replace HB := hbs hb; clear hb; obtain ⟨_, _, _, _, _, _, _, _, _, _⟩ := box5 BK11; obtain ⟨_, _, _, _, _, _, _, _, _, _⟩ := box5 BK12) | (refine gL 41 (some 21) Tryz.func41 #[.slice A0_2 l0_2.length c0_2, .slice A1_2 l1_2.length c1_2] ?_; refine (laws_eqIntS.calls k _ _ l0_2 _ _ l1_2 false _ (cb HR0_2) HC0_2.out (cb HR1_2) HC1_2.out A7.out).mono ?_; rintro e w' ⟨rfl, ⟨nd, rfl⟩⟩; refine ⟨_, rfl, ?_⟩))
    go_ret
    exact ⟨rfe, bels⟩
  ·replace c6 := Bool.eq_false_iff.mpr c6; subst c6; rw [if_neg (by decide)] at H; obtain rfl := oI H
   go_enter Tryz.func11, Tryz.ntmps11
   go_wp2_with (first | (refine bxe 2 #[.slice A0_0 l0_0.length c0_0, .slice A0_1 l0_1.length c0_1, .slice A0_2 l0_2.length c0_2, .int .i64 a0_3, .int .i64 a0_4] 33 ?_; intro gb11 hg w55 hbox hb; have BK11 := Aside0.mk (hbox); have GW11 := Aside0.mk (gwe hg : w.heap.size ≤ _); have GE11 := GW11; replace HB := hbs hb; clear hb hbox hg) | (refine bxe 3 #[.slice A1_0 l1_0.length c1_0, .slice A1_1 l1_1.length c1_1, .slice A1_2 l1_2.length c1_2, .int .i64 a1_3, .int .i64 a1_4] 33 ?_; intro gb12 hg w56 hbox hb; have BK12 := Aside0.mk (hbox); have GW12 := Aside0.mk (gwe hg : w.heap.size ≤ _); have GE12 := GW12; have NB11_12 := Aside0.mk (nbl hg BK11); have NB12_11 := Aside0.mk (nbg hg BK11); replace BK11 := kb BK11 hb; replace HB := hbs hb; clear hb hbox hg; have hnb57 := NB11_12.out; have hnc57 := NB12_11.out; obtain ⟨_, _, _, _, _, _, _, _, _, _⟩ := box5 BK11; obtain ⟨_, _, _, _, _, _, _, _, _, _⟩ := box5 BK12) | (refine gL 39 (some 9) Tryz.func39 #[.slice A0_0 l0_0.length c0_0, .slice A1_0 l1_0.length c1_0] ?_; refine (laws_eqInsS.calls k _ _ l0_0 _ _ l1_0 true _ (cb HR0_0) HC0_0.out (cb HR1_0) HC1_0.out A3.out).mono ?_; rintro e w60 ⟨rfl, hb⟩; refine ⟨_, rfl, ?_⟩; replace BK11 := kb BK11 hb; replace BK12 := kb BK12 hb; replace HB := hbs hb; clear hb; obtain ⟨_, _, _, _, _, _, _, _, _, _⟩ := box5 BK11; obtain ⟨_, _, _, _, _, _, _, _, _, _⟩ := box5 BK12) | (refine gL 40 (some 15) Tryz.func40 #[.slice A0_1 l0_1.length c0_1, .slice A1_1 l1_1.length c1_1] ?_; refine (laws_eqWarpS.calls k _ _ l0_1 _ _ l1_1 false _ (cb HR0_1) HC0_1.out (cb HR1_1) HC1_1.out A5.out).mono ?_; rintro e w63 ⟨rfl, hb⟩; refine ⟨_, rfl, ?_⟩; replace BK11 := kb BK11 hb; replace BK12 := kb BK12 hb; replace HB := hbs hb; clear hb))
   go_ret
   exact ⟨rfe, bels⟩
 ·replace c4 := Bool.eq_false_iff.mpr c4; subst c4; rw [if_neg (by decide)] at H; obtain rfl := oI H
  go_enter Tryz.func11, Tryz.ntmps11
  go_wp2_with (first | (refine bxe 2 #[.slice A0_0 l0_0.length c0_0, .slice A0_1 l0_1.length c0_1, .slice A0_2 l0_2.length c0_2, .int .i64 a0_3, .int .i64 a0_4] 33 ?_; intro gb11 hg w64 hbox hb; have BK11 := Aside0.mk (hbox); have GW11 := Aside0.mk (gwe hg : w.heap.size ≤ _); have GE11 := GW11; replace HB := hbs hb; clear hb hbox hg) | (refine bxe 3 #[.slice A1_0 l1_0.length c1_0, .slice A1_1 l1_1.length c1_1, .slice A1_2 l1_2.length c1_2, .int .i64 a1_3, .int .i64 a1_4] 33 ?_; intro gb12 hg w65 hbox hb; have BK12 := Aside0.mk (hbox); have GW12 := Aside0.mk (gwe hg : w.heap.size ≤ _); have GE12 := GW12; have NB11_12 := Aside0.mk (nbl hg BK11); have NB12_11 := Aside0.mk (nbg hg BK11); replace BK11 := kb BK11 hb; replace HB := hbs hb; clear hb hbox hg; have hnb66 := NB11_12.out; have hnc66 := NB12_11.out; obtain ⟨_, _, _, _, _, _, _, _, _, _⟩ := box5 BK11; obtain ⟨_, _, _, _, _, _, _, _, _, _⟩ := box5 BK12) | (refine gL 39 (some 9) Tryz.func39 #[.slice A0_0 l0_0.length c0_0, .slice A1_0 l1_0.length c1_0] ?_; refine (laws_eqInsS.calls k _ _ l0_0 _ _ l1_0 false _ (cb HR0_0) HC0_0.out (cb HR1_0) HC1_0.out A3.out).mono ?_; rintro e w69 ⟨rfl, hb⟩; refine ⟨_, rfl, ?_⟩; replace BK11 := kb BK11 hb; replace BK12 := kb BK12 hb; replace HB := hbs hb; clear hb))
  go_ret
  exact ⟨rfe, bels⟩

/-! ### laws_markText: function 45 -/
def laws_markText.l0 : Nat → Int → ByteArray → Option (ByteArray)
 | 0, _, _ => none
 | k + 1, x0, x3 => if x0 > 0 then ((some (([(wrap64 (48 + (Int.tmod x0 10))) % 256] : List Int) : List Int)).bind fun y11 => (if (strOfNums y11).size + x3.size ≤ 9223372036854775807 then (laws_markText.l0 k (wrap64 (Int.tdiv x0 10)) ((strOfNums y11) ++ x3)) else (none))) else (if 1 + x3.size ≤ 9223372036854775807 then (some ((⟨#[109]⟩ : ByteArray) ++ x3)) else (none))
def laws_markText.f (k : Nat) (a0 : Int) : Option (ByteArray) := if a0 ≤ 0 then (some (⟨#[109, 48]⟩ : ByteArray)) else (laws_markText.l0 k a0 (⟨#[]⟩ : ByteArray))
set_option maxHeartbeats 8000000 in
set_option maxRecDepth 100000 in
theorem laws_markText.calls (k : Nat) (a0 : Int) (r : ByteArray) (w : World) (h : laws_markText.f k a0 = some r) :
  Calls Tryz.prog 45 #[.int .i64 a0] w fun e w' => e = .returned (.string r) ∧ Below w.heap.size w w' := by
 have HB := Aside0.mk (Below.refl w.heap.size w)
 have H : (if a0 ≤ 0 then (some (⟨#[109, 48]⟩ : ByteArray)) else (laws_markText.l0 k a0 (⟨#[]⟩ : ByteArray))) = some r := h
 clear h
 by_cases c2 : a0 ≤ 0
 ·rw [if_pos c2] at H
  have c2b0 := decide_eq_true c2
  clear c2; obtain rfl := oI H
  go_enter Tryz.func45, Tryz.ntmps45
  go_wp2
  go_ret
  exact ⟨rfe, bels⟩
 ·rw [if_neg c2] at H
  have c2b0 := decide_eq_false c2
  clear c2
  have H' := Aside0.mk H
  clear H
  go_enter Tryz.func45, Tryz.ntmps45
  go_wp2
  go_loopg [0, 3] k (fun kq v0 v3 w' => ∃ (x0_1 : Int) (x3_1 : ByteArray), v0 = .int .i64 x0_1 ∧ v3 = .string x3_1 ∧ Aside0 (laws_markText.l0 kq x0_1 x3_1 = some r) ∧ Aside0 (kq ≤ k) ∧ Aside0 (Below w.heap.size w w'))
  case atStart => exact ⟨(a0), ((⟨#[]⟩ : ByteArray)), rfx, rfx, H', ⟨Nat.le_refl _⟩, ⟨bels⟩⟩
  case round =>
   clear H'
   try clear c2
   try clear c2b0
   try clear p2
   obtain ⟨x0_1, x3_1, rfl, rfl, HA, HK1, HB⟩ := hrel
   cases gk with
   | zero => exact absurd HA.out (by simp [laws_markText.l0])
   | succ k1 =>
    have H := HA.out; clear HA
    simp only [laws_markText.l0] at H
    by_cases c3 : x0_1 > 0
    ·rw [if_pos c3] at H
     have c3b0 := decide_eq_true c3
     clear c3
     obtain ⟨y11, Ny11, H⟩ := nmA (α := List Int) (([(wrap64 (48 + (Int.tmod x0_1 10))) % 256] : List Int)) H; (try dsimp only at H)
     obtain ⟨c4, H⟩ := ifS H; have c4b0 := eq_true c4
     have c4b1 := decide_eq_true c4
     try have c4b2 : (9223372036854775807 < (strOfNums y11).size + x3_1.size) = False := eq_false (Nat.not_lt.2 c4)
     have H' := Aside0.mk H
     clear H
     go_wp2_with (first | ((with_reducible refine gate_dst (N := 12) rfl ?_); refine Kd.R_lit (Kd.int .u8) _ 5 ?hg (N := 12) ?hd (xs := ([(wrap64 (48 + (Int.tmod x0_1 10))) % 256] : List Int)) (inner := [.int .u8 ((wrap64 (48 + (Int.tmod x0_1 10))) % 256)]) (ok := fun _ => True) (okp := fun _ => True) ?hr ?hp (fun _ hk => hk) trivial (Below.refl _ _) (Nat.le_refl _) (by simp) ?_; (case hd => rfl); (case hg => rfl); (case hr => exact gs); (case hp => exact (Reps.one (show Kd.M (Kd.int .u8) _ _ _ ((wrap64 (48 + (Int.tmod x0_1 10))) % 256) [.int .u8 ((wrap64 (48 + (Int.tmod x0_1 10))) % 256)] from rfl) (Reps.none _ _))); intro v12 w5 ho6 hb hg_ hnew_; clear hg_ hnew_; (first | rw [← Ny11.out] at ho6 | (simp only [Int.reduceToNat] at ho6; rw [← Ny11.out] at ho6)); have HO13 := Aside0.mk (Kd.R_lower ho6 (below_size bels)); replace HB := hbs hb; clear hb ho6; have hcv7 := own_string (P := Tryz.prog) Tryz.underlying40 Tryz.underlying5 Tryz.underlying9 (Kd.own_of_R HO13.out)))
     go_roundg k1
     case measure => have := HK1.out; omega
     case rel => exact ⟨(wrap64 (Int.tdiv x0_1 10)), ((strOfNums y11) ++ x3_1), rfx, rfx, H', ⟨by have := HK1.out; omega⟩, ⟨bels⟩⟩
     all_goals ((try simp only [ByteArray.size_append] at c4 ⊢); omega)
    ·rw [if_neg c3] at H
     have c3b0 := decide_eq_false c3
     clear c3
     obtain ⟨c8, H⟩ := ifS H; have c8b0 := eq_true c8
     have c8b1 := decide_eq_true c8
     try have c8b2 : (9223372036854775807 < 1 + x3_1.size) = False := eq_false (Nat.not_lt.2 c8)
     obtain rfl := oI H
     go_wp2
     go_ret
     exact ⟨rfe, bels⟩
     all_goals ((try simp only [ByteArray.size_append] at c8 ⊢); omega)

/-! ### laws_markStringS: function 13 -/
def laws_markStringS.l0 : Nat → List ByteArray → Int → Int → Option (Int × List ByteArray)
 | 0, _, _, _ => none
 | k + 1, x0, x1, x5 => if x5 < (x0.length : Int) then ((laws_markText.f k x1).bind fun t11 => (if 0 ≤ x5 then (laws_markStringS.l0 k (x0.set (x5 : Int).toNat t11) (wrap64 (x1 + 1)) (wrap64 (x5 + 1))) else (none))) else (some (x1, x0))
def laws_markStringS.f (k : Nat) (l0 : List ByteArray) (a1 : Int) : Option (Int × List ByteArray) := laws_markStringS.l0 k l0 a1 0
set_option maxHeartbeats 8000000 in
set_option maxRecDepth 100000 in
theorem laws_markStringS.calls (k : Nat) (P0_ : Nat → Prop) (u9000_ : Value) (l0 : List ByteArray) (a1 : Int) (r1 : Int) (r2 : List ByteArray) (w0 w : World) (hB : Below w0.heap.size w0 w) (ho0 : Kd.R Kd.string 9 w w0.heap.size P0_ u9000_ l0) (h : laws_markStringS.f k l0 a1 = some (r1, r2)) :
  Calls Tryz.prog 13 #[u9000_, .int .i64 a1] w fun e w' => e = .returned (.int .i64 r1) ∧ Kd.R Kd.string 9 w' w0.heap.size (fun k_ => (P0_ k_ ∨ w.heap.size ≤ k_)) u9000_ r2 ∧ Below w0.heap.size w0 w' ∧ Kept w w' (fun k_ => P0_ k_) := by
 have HO0 := Aside0.mk (show Kd.R Kd.string 9 w w0.heap.size (fun k_ => (P0_ k_ ∨ w.heap.size ≤ k_)) u9000_ l0 from Kd.R_mono ho0 (fun k_ hk => (.inl hk))); have HK := Aside0.mk (Kept.refl w (fun k_ => P0_ k_)); have HW0 := Aside0.mk hB.size; have HB := Aside0.mk hB; clear hB
 have H : (laws_markStringS.l0 k l0 a1 0) = some (r1, r2) := h
 clear h
 have H' := Aside0.mk H
 clear H
 go_enter Tryz.func13, Tryz.ntmps13
 go_wp2
 go_loopg [1, 5] k (fun kq v1 v5 w' => ∃ (x0_1 : List ByteArray) (x1_1 : Int) (x5_1 : Int), v1 = .int .i64 x1_1 ∧ v5 = .int .i64 x5_1 ∧ Aside0 (laws_markStringS.l0 kq x0_1 x1_1 x5_1 = some (r1, r2)) ∧ Aside0 (kq ≤ k) ∧ Aside0 (Kd.R Kd.string 9 w' w0.heap.size (fun k_ => (P0_ k_ ∨ w.heap.size ≤ k_)) u9000_ x0_1) ∧ Aside0 (Kept w w' (fun k_ => P0_ k_)) ∧ Aside0 (Below w0.heap.size w0 w'))
 case atStart => exact ⟨(l0), (a1), (0), rfx, rfx, H', ⟨Nat.le_refl _⟩, ⟨by (with_reducible repeat (first | apply Kd.R_alloc | apply Kd.R_drewN | apply Kd.R_drew)); exact HO0.out⟩, ⟨by repeat (first | (with_reducible first | exact HK.out | apply Kept.alloc | apply Kept.drewN | apply Kept.drew) | exact HK.out)⟩, ⟨bels⟩⟩
 case round =>
  clear H'
  try clear c1
  try clear p2
  obtain ⟨x0_1, x1_1, x5_1, rfl, rfl, HA, HK1, HO_0, HK, HB⟩ := hrel
  cases gk with
  | zero => exact absurd HA.out (by simp [laws_markStringS.l0])
  | succ k1 =>
   have H := HA.out; clear HA
   simp only [laws_markStringS.l0] at H
   by_cases c3 : x5_1 < (x0_1.length : Int)
   ·rw [if_pos c3] at H
    have c3b0 := decide_eq_true c3
    clear c3; obtain ⟨t11, A4, H⟩ := bnd H; (try dsimp only at H)
    obtain ⟨c5, H⟩ := ifS H
    have c5b0 := decide_eq_true c5
    clear c5
    obtain ⟨y12, hy12⟩ := exE (α := List ByteArray) (x0_1.set (x5_1 : Int).toNat t11); (first | with_reducible replace H := nmZ hy12 H | rw [← hy12] at H); (try dsimp only at H); have Ny12 := Aside0.mk hy12; clear hy12
    have H' := Aside0.mk H
    clear H; obtain ⟨Ao7, co7, eo7⟩ := Kd.R_slice HO_0.out; subst eo7
    go_wp2_with (first | (refine gL 45 (some 15) Tryz.func45 #[.int .i64 x1_1] ?_; (with_reducible refine (laws_markText.calls k1 x1_1 t11 _ A4.out).mono ?_); rintro e w8 ⟨rfl, hb⟩; refine ⟨_, rfl, ?_⟩; replace HO_0 := Aside0.mk (rbR HO_0 hb); replace HK := Aside0.mk (Kept.below (S := (fun k_ => P0_ k_)) (by repeat (first | (with_reducible first | exact HK.out | apply Kept.alloc | apply Kept.drewN | apply Kept.drew) | exact HK.out)) hb); replace HB := hbs hb; clear hb; have p6 : 0 ≤ (x5_1 : Int) := pq0; have q6 : (x5_1 : Int) < ((x0_1.length : Int) : Int) := pq0; obtain ⟨go6, co6, eo6, gb6, gl6, cl6, HG6⟩ := Kd.R_form HO_0.out (by omega); (first | cases eo6 | (injection eo6 with ea_ en_ ec_; (first | subst ea_ | (injection ea_ with ea_; subst ea_)); subst ec_; clear en_)); have GB6 := Aside0.mk gb6; have GG6 := Aside0.mk HG6; clear gb6 gl6 HG6; have HMgo6 := Aside0.mk (show (P0_ go6 ∨ w.heap.size ≤ go6) from (HO_0.out.1 _ rfl)); obtain ⟨hx6_0, hf6_0⟩ := Kd.R_celln (⟨#[]⟩ : ByteArray) HO_0.out (x5_1 : Int) p6 q6; replace p6 := eq_true p6; replace q6 := eq_true q6; obtain ⟨hy9_, hz9_⟩ := Kd.R_celln (⟨#[]⟩ : ByteArray) HO_0.out (x5_1 : Int) (pq0) (pq0); have HP9 := Kd.R_putg HO_0.out (x5_1 : Int) t11) | ((with_reducible refine gate_store (t := 9) (p := 16) rfl ?_); refine store_event (t := 9) (p := 16) (v := ?vo_w10) (w1 := (w8.setCell ⟨go6, (x5_1 : Int).toNat, none⟩ (.string t11))) ?hg ?ho ?hn ?hr ?_; (case ho => rfl); (case hg => rfl); (case hn => rfl); (case hr => exact gs); intro w10 hw; have hg : w8.grownBy w10 (some go6) := (by rw [hw]; exact HP9.2); have hp_ : Kd.R Kd.string 9 w10 w0.heap.size (fun k_ => (P0_ k_ ∨ w.heap.size ≤ k_)) (.slice (some ⟨go6, 0, none⟩) x0_1.length co7) y12 := (by rw [hw, Ny12.out]; exact HP9.1); clear HP9; replace HB := Aside0.mk ((by rw [hw]; exact below_set (HB.out) GB6.out : Below w0.heap.size w0 w10)); replace HK := Aside0.mk (Kept.of_grown (S := (fun k_ => P0_ k_)) hg (by repeat (first | (with_reducible first | exact HK.out | apply Kept.alloc | apply Kept.drewN | apply Kept.drew) | exact HK.out)) (fun k_ e_ => (HO_0.out.1 k_ e_))); replace HO_0 := Aside0.mk (hp_); clear hg hw hp_))
    go_roundg k1
    case measure => have := HK1.out; omega
    case rel => exact ⟨(y12), (wrap64 (x1_1 + 1)), (wrap64 (x5_1 + 1)), rfx, rfx, H', ⟨by have := HK1.out; omega⟩, ⟨by (with_reducible repeat (first | apply Kd.R_alloc | apply Kd.R_drewN | apply Kd.R_drew)); exact HO_0.out⟩, ⟨by repeat (first | (with_reducible first | exact HK.out | apply Kept.alloc | apply Kept.drewN | apply Kept.drew) | exact HK.out)⟩, ⟨bels⟩⟩
   ·rw [if_neg c3] at H
    have c3b0 := decide_eq_false c3
    clear c3
    simp only [Option.some.injEq, Prod.mk.injEq] at H
    obtain ⟨rfl, rfl⟩ := H; obtain ⟨Ao11, co11, eo11⟩ := Kd.R_slice HO_0.out; subst eo11
    go_wp2
    go_ret
    exact ⟨rfe, by (with_reducible repeat (first | apply Kd.R_alloc | apply Kd.R_drewN | apply Kd.R_drew)); exact HO_0.out, bels, by repeat (first | (with_reducible first | exact HK.out | apply Kept.alloc | apply Kept.drewN | apply Kept.drew) | exact HK.out)⟩

/-! ### laws_heldStringS: function 14 -/
def laws_heldStringS.l0 : Nat → List ByteArray → Int → Int → Option (Int)
 | 0, _, _, _ => none
 | k + 1, x0, x1, x5 => if x5 < (x0.length : Int) then (if 0 ≤ x5 then ((laws_markText.f k x1).bind fun t12 => (if (rdOf ByteArray.empty x0 x5).toList = t12.toList then (laws_heldStringS.l0 k x0 (wrap64 (x1 + 1)) (wrap64 (x5 + 1))) else (some (-1)))) else (none)) else (some x1)
def laws_heldStringS.f (k : Nat) (l0 : List ByteArray) (a1 : Int) : Option (Int) := laws_heldStringS.l0 k l0 a1 0
set_option maxHeartbeats 8000000 in
set_option maxRecDepth 100000 in
theorem laws_heldStringS.calls (k : Nat) (A0 : Option Addr) (c0 : Nat) (l0 : List ByteArray) (a1 : Int) (r : Int) (w : World) (hr0 : Kd.C Kd.string w A0 l0.length l0) (hc0 : l0.length ≤ c0) (h : laws_heldStringS.f k l0 a1 = some r) :
  Calls Tryz.prog 14 #[.slice A0 l0.length c0, .int .i64 a1] w fun e w' => e = .returned (.int .i64 r) ∧ Below w.heap.size w w' := by
 have HR0 := Aside0.mk hr0; have HC0 := Aside0.mk hc0; clear hr0 hc0; have HB := Aside0.mk (Below.refl w.heap.size w)
 have H : (laws_heldStringS.l0 k l0 a1 0) = some r := h
 clear h
 have H' := Aside0.mk H
 clear H
 go_enter Tryz.func14, Tryz.ntmps14
 go_wp2
 go_loopg [1, 5] k (fun kq v1 v5 w' => ∃ (x1_1 : Int) (x5_1 : Int), v1 = .int .i64 x1_1 ∧ v5 = .int .i64 x5_1 ∧ Aside0 (laws_heldStringS.l0 kq l0 x1_1 x5_1 = some r) ∧ Aside0 (kq ≤ k) ∧ Aside0 (Below w.heap.size w w'))
 case atStart => exact ⟨(a1), (0), rfx, rfx, H', ⟨Nat.le_refl _⟩, ⟨bels⟩⟩
 case round =>
  clear H'
  try clear c1
  try clear p2
  obtain ⟨x1_1, x5_1, rfl, rfl, HA, HK1, HB⟩ := hrel
  cases gk with
  | zero => exact absurd HA.out (by simp [laws_heldStringS.l0])
  | succ k1 =>
   have H := HA.out; clear HA
   simp only [laws_heldStringS.l0] at H
   by_cases c3 : x5_1 < (l0.length : Int)
   ·rw [if_pos c3] at H
    have c3b0 := decide_eq_true c3
    clear c3
    obtain ⟨c4, H⟩ := ifS H
    have c4b0 := decide_eq_true c4
    clear c4; obtain ⟨t12, A5, H⟩ := bnd H; (try dsimp only at H)
    by_cases c6 : (rdOf ByteArray.empty l0 x5_1).toList = t12.toList
    ·rw [if_pos c6] at H
     have c6b0 : ((rdOf ByteArray.empty l0 x5_1).toList == t12.toList) = true := beq_iff_eq.mpr c6
     have c6b1 : ((rdOf ByteArray.empty l0 x5_1).toList != t12.toList) = false := bne_eq_false_iff_eq.mpr c6
     clear c6
     have H' := Aside0.mk H
     clear H
     try go_wp2
     replace HB := Aside0.mk (below_drew1 HB.out)
     have p11 : 0 ≤ (x5_1 : Int) := pq0
     have q11 : x5_1 < (l0.length : Int) := pq0
     obtain ⟨ad11, e11, hx11_0⟩ := Kd.at_string HR0.out x5_1 p11 q11; have hw11_0 := hx11_0
     cases e11
     replace hx11_0 := hxb hx11_0; replace p11 := eq_true p11; replace q11 := eq_true q11
     refine start_ (n := 7) (S := fun w' => w'.cell? (ad11.add (x5_1).toNat) = some (.string (rdOf ByteArray.empty l0 x5_1))) (ds := []) _ (by kernel_rfl) rfl rfl ((hxb hw11_0)) (fun hHeld => ?_)
     generalize wr.drew = w7 at HB hx11_0 hHeld ⊢
     refine pure_ (i := 0) (N := some 12) (v := ?_) (a' := ?_) #[true, false, false, false, false, false, false] rfl rfl (by kernel_rfl) (fun _ _ _ h => h) (Or.inl ⟨by rfl, ?_⟩) ?_ ?_
     rotate_left
     ·intro w'
      go_simp
      with_reducible rfl
     rotate_left
     ·simp only [Act.put, List.setIfInBounds_toArray, List.set_cons_zero, List.set_cons_succ, i64_w, i32_w]
      rfl
     refine pure_ (i := 1) (N := some 13) (v := ?_) (a' := ?_) #[true, true, false, false, false, false, false] rfl rfl (by kernel_rfl) (fun _ _ _ h => h) (Or.inl ⟨by rfl, ?_⟩) ?_ ?_
     rotate_left
     ·intro w'
      go_simp
      with_reducible rfl
     rotate_left
     ·simp only [Act.put, List.setIfInBounds_toArray, List.set_cons_zero, List.set_cons_succ, i64_w, i32_w]
      rfl
     refine pure_ (i := 2) (N := some 14) (v := ?_) (a' := ?_) #[true, true, true, false, false, false, false] rfl rfl (by kernel_rfl) (fun _ _ _ h => h) (Or.inl ⟨by rfl, ?_⟩) ?_ ?_
     rotate_left
     ·intro w'
      go_simp
      with_reducible rfl
     rotate_left
     ·simp only [Act.put, List.setIfInBounds_toArray, List.set_cons_zero, List.set_cons_succ, i64_w, i32_w]
      rfl
     refine pure_ (i := 4) (N := some 16) (v := ?_) (a' := ?_) #[true, true, true, false, true, false, false] rfl rfl (by kernel_rfl) (fun _ _ _ h => h) (Or.inl ⟨by rfl, ?_⟩) ?_ ?_
     rotate_left
     ·intro w'
      go_simp
      with_reducible rfl
     rotate_left
     ·simp only [Act.put, List.setIfInBounds_toArray, List.set_cons_zero, List.set_cons_succ, i64_w, i32_w]
      rfl
     refine take_ (i := 3) (N := some 15) (v := ?_) (a' := ?_) #[true, true, true, true, true, false, false] rfl rfl (by kernel_rfl) (fun _ _ _ h => h) (Or.inl ⟨by rfl, ?_⟩) hHeld ?_ ?_
     rotate_left
     ·intro w' s0
      go_simp
      with_reducible rfl
     rotate_left
     ·simp only [Act.put, List.setIfInBounds_toArray, List.set_cons_zero, List.set_cons_succ, i64_w, i32_w]
      rfl
     refine one_ (i := 5) (N := some 17) #[true, true, true, true, true, true, false] rfl rfl (by kernel_rfl) (by decide) (fun K hK => ?_)
     refine goes_ Tryz.func45 (by kernel_rfl) rfl #[.int .i64 x1_1] (by rfl) rfl rfl slq ?_; (with_reducible refine (laws_markText.calls k1 x1_1 t12 _ A5.out).mono ?_); rintro e w8 ⟨rfl, hb⟩; refine ⟨_, rfl, ?_⟩; replace HB := hbs hb; clear hb; refine hK.out _ _ ((hxb hw11_0)) (fun hHeld => ?_); clear hK K; refine nm 17 ?_
     refine pure_ (i := 6) (N := some 18) (v := ?_) (a' := ?_) #[true, true, true, true, true, true, true] rfl rfl (by kernel_rfl) (fun _ _ _ h => h) (Or.inl ⟨by rfl, ?_⟩) ?_ ?_
     rotate_left
     ·intro w'
      go_simp
      with_reducible rfl
     rotate_left
     ·simp only [Act.put, List.setIfInBounds_toArray, List.set_cons_zero, List.set_cons_succ, i64_w, i32_w]
      rfl
     refine done_ (by kernel_rfl) ?_
     try go_wp2
     go_roundg k1
     case measure => have := HK1.out; omega
     case rel => exact ⟨(wrap64 (x1_1 + 1)), (wrap64 (x5_1 + 1)), rfx, rfx, H', ⟨by have := HK1.out; omega⟩, ⟨bels⟩⟩
    ·rw [if_neg c6] at H
     have c6b0 : ((rdOf ByteArray.empty l0 x5_1).toList == t12.toList) = false := beq_eq_false_iff_ne.mpr c6
     have c6b1 : ((rdOf ByteArray.empty l0 x5_1).toList != t12.toList) = true := bne_iff_ne.mpr c6
     obtain rfl := oI H
     try go_wp2
     replace HB := Aside0.mk (below_drew1 HB.out)
     have p11 : 0 ≤ (x5_1 : Int) := pq0
     have q11 : x5_1 < (l0.length : Int) := pq0
     obtain ⟨ad11, e11, hx11_0⟩ := Kd.at_string HR0.out x5_1 p11 q11; have hw11_0 := hx11_0
     cases e11
     replace hx11_0 := hxb hx11_0; replace p11 := eq_true p11; replace q11 := eq_true q11
     refine start_ (n := 7) (S := fun w' => w'.cell? (ad11.add (x5_1).toNat) = some (.string (rdOf ByteArray.empty l0 x5_1))) (ds := []) _ (by kernel_rfl) rfl rfl ((hxb hw11_0)) (fun hHeld => ?_)
     generalize wr.drew = w9 at HB hx11_0 hHeld ⊢
     refine pure_ (i := 0) (N := some 12) (v := ?_) (a' := ?_) #[true, false, false, false, false, false, false] rfl rfl (by kernel_rfl) (fun _ _ _ h => h) (Or.inl ⟨by rfl, ?_⟩) ?_ ?_
     rotate_left
     ·intro w'
      go_simp
      with_reducible rfl
     rotate_left
     ·simp only [Act.put, List.setIfInBounds_toArray, List.set_cons_zero, List.set_cons_succ, i64_w, i32_w]
      rfl
     refine pure_ (i := 1) (N := some 13) (v := ?_) (a' := ?_) #[true, true, false, false, false, false, false] rfl rfl (by kernel_rfl) (fun _ _ _ h => h) (Or.inl ⟨by rfl, ?_⟩) ?_ ?_
     rotate_left
     ·intro w'
      go_simp
      with_reducible rfl
     rotate_left
     ·simp only [Act.put, List.setIfInBounds_toArray, List.set_cons_zero, List.set_cons_succ, i64_w, i32_w]
      rfl
     refine pure_ (i := 2) (N := some 14) (v := ?_) (a' := ?_) #[true, true, true, false, false, false, false] rfl rfl (by kernel_rfl) (fun _ _ _ h => h) (Or.inl ⟨by rfl, ?_⟩) ?_ ?_
     rotate_left
     ·intro w'
      go_simp
      with_reducible rfl
     rotate_left
     ·simp only [Act.put, List.setIfInBounds_toArray, List.set_cons_zero, List.set_cons_succ, i64_w, i32_w]
      rfl
     refine pure_ (i := 4) (N := some 16) (v := ?_) (a' := ?_) #[true, true, true, false, true, false, false] rfl rfl (by kernel_rfl) (fun _ _ _ h => h) (Or.inl ⟨by rfl, ?_⟩) ?_ ?_
     rotate_left
     ·intro w'
      go_simp
      with_reducible rfl
     rotate_left
     ·simp only [Act.put, List.setIfInBounds_toArray, List.set_cons_zero, List.set_cons_succ, i64_w, i32_w]
      rfl
     refine take_ (i := 3) (N := some 15) (v := ?_) (a' := ?_) #[true, true, true, true, true, false, false] rfl rfl (by kernel_rfl) (fun _ _ _ h => h) (Or.inl ⟨by rfl, ?_⟩) hHeld ?_ ?_
     rotate_left
     ·intro w' s0
      go_simp
      with_reducible rfl
     rotate_left
     ·simp only [Act.put, List.setIfInBounds_toArray, List.set_cons_zero, List.set_cons_succ, i64_w, i32_w]
      rfl
     refine one_ (i := 5) (N := some 17) #[true, true, true, true, true, true, false] rfl rfl (by kernel_rfl) (by decide) (fun K hK => ?_)
     refine goes_ Tryz.func45 (by kernel_rfl) rfl #[.int .i64 x1_1] (by rfl) rfl rfl slq ?_; (with_reducible refine (laws_markText.calls k1 x1_1 t12 _ A5.out).mono ?_); rintro e w10 ⟨rfl, hb⟩; refine ⟨_, rfl, ?_⟩; replace HB := hbs hb; clear hb; refine hK.out _ _ ((hxb hw11_0)) (fun hHeld => ?_); clear hK K; refine nm 17 ?_
     refine pure_ (i := 6) (N := some 18) (v := ?_) (a' := ?_) #[true, true, true, true, true, true, true] rfl rfl (by kernel_rfl) (fun _ _ _ h => h) (Or.inl ⟨by rfl, ?_⟩) ?_ ?_
     rotate_left
     ·intro w'
      go_simp
      with_reducible rfl
     rotate_left
     ·simp only [Act.put, List.setIfInBounds_toArray, List.set_cons_zero, List.set_cons_succ, i64_w, i32_w]
      rfl
     refine done_ (by kernel_rfl) ?_
     try go_wp2
     go_ret
     exact ⟨rfe, bels⟩
   ·rw [if_neg c3] at H
    have c3b0 := decide_eq_false c3
    clear c3; obtain rfl := oI H
    go_wp2
    go_ret
    exact ⟨rfe, bels⟩

/-! ### laws_markInsS: function 42 -/
def laws_markInsS.l0 : Nat → List (S95) → Int → Int → Option (Int × (List (S95)))
 | 0, _, _, _ => none
 | k + 1, x0, x1, x5 => if x5 < (x0.length : Int) then (if 0 ≤ x5 then ((some (x0.set (x5 : Int).toNat (⟨x1, (rd_T95 x0 x5).f1, (rd_T95 x0 x5).f2, (rd_T95 x0 x5).f3⟩ : S95) : List (S95))).bind fun y11 => ((some (y11.set (x5 : Int).toNat (⟨(rd_T95 y11 x5).f0, wrap64 (x1 + 1), (rd_T95 y11 x5).f2, (rd_T95 y11 x5).f3⟩ : S95) : List (S95))).bind fun y12 => ((some (y12.set (x5 : Int).toNat (⟨(rd_T95 y12 x5).f0, (rd_T95 y12 x5).f1, wrap64 ((wrap64 (x1 + 1)) + 1), (rd_T95 y12 x5).f3⟩ : S95) : List (S95))).bind fun y13 => (laws_markInsS.l0 k (y13.set (x5 : Int).toNat (⟨(rd_T95 y13 x5).f0, (rd_T95 y13 x5).f1, (rd_T95 y13 x5).f2, wrap64 ((wrap64 ((wrap64 (x1 + 1)) + 1)) + 1)⟩ : S95)) (wrap64 ((wrap64 ((wrap64 ((wrap64 (x1 + 1)) + 1)) + 1)) + 1)) (wrap64 (x5 + 1)))))) else (none)) else (some (x1, x0))
def laws_markInsS.f (k : Nat) (l0 : List (S95)) (a1 : Int) : Option (Int × (List (S95))) := laws_markInsS.l0 k l0 a1 0
set_option maxHeartbeats 8000000 in
set_option maxRecDepth 100000 in
theorem laws_markInsS.calls (k : Nat) (P0_ : Nat → Prop) (u9000_ : Value) (l0 : List (S95)) (a1 : Int) (r1 : Int) (r2 : List (S95)) (w0 w : World) (hB : Below w0.heap.size w0 w) (ho0 : Kd.R k95 95 w w0.heap.size P0_ u9000_ l0) (h : laws_markInsS.f k l0 a1 = some (r1, r2)) :
  Calls Tryz.prog 42 #[u9000_, .int .i64 a1] w fun e w' => e = .returned (.int .i64 r1) ∧ Kd.R k95 95 w' w0.heap.size (fun k_ => (P0_ k_ ∨ w.heap.size ≤ k_)) u9000_ r2 ∧ Below w0.heap.size w0 w' ∧ Kept w w' (fun k_ => P0_ k_) := by
 have HO0 := Aside0.mk (show Kd.R k95 95 w w0.heap.size (fun k_ => (P0_ k_ ∨ w.heap.size ≤ k_)) u9000_ l0 from Kd.R_mono ho0 (fun k_ hk => (.inl hk))); have HK := Aside0.mk (Kept.refl w (fun k_ => P0_ k_)); have HW0 := Aside0.mk hB.size; have HB := Aside0.mk hB; clear hB
 have H : (laws_markInsS.l0 k l0 a1 0) = some (r1, r2) := h
 clear h
 have H' := Aside0.mk H
 clear H
 go_enter Tryz.func42, Tryz.ntmps42
 go_wp2
 go_loopg [1, 5] k (fun kq v1 v5 w' => ∃ (x0_1 : List (S95)) (x1_1 : Int) (x5_1 : Int), v1 = .int .i64 x1_1 ∧ v5 = .int .i64 x5_1 ∧ Aside0 (laws_markInsS.l0 kq x0_1 x1_1 x5_1 = some (r1, r2)) ∧ Aside0 (kq ≤ k) ∧ Aside0 (Kd.R k95 95 w' w0.heap.size (fun k_ => (P0_ k_ ∨ w.heap.size ≤ k_)) u9000_ x0_1) ∧ Aside0 (Kept w w' (fun k_ => P0_ k_)) ∧ Aside0 (Below w0.heap.size w0 w'))
 case atStart => exact ⟨(l0), (a1), (0), rfx, rfx, H', ⟨Nat.le_refl _⟩, ⟨by (with_reducible repeat (first | apply Kd.R_alloc | apply Kd.R_drewN | apply Kd.R_drew)); exact HO0.out⟩, ⟨by repeat (first | (with_reducible first | exact HK.out | apply Kept.alloc | apply Kept.drewN | apply Kept.drew) | exact HK.out)⟩, ⟨bels⟩⟩
 case round =>
  clear H'
  try clear p2
  obtain ⟨x0_1, x1_1, x5_1, rfl, rfl, HA, HK1, HO_0, HK, HB⟩ := hrel
  cases gk with
  | zero => exact absurd HA.out (by simp [laws_markInsS.l0])
  | succ k1 =>
   have H := HA.out; clear HA
   simp only [laws_markInsS.l0] at H
   by_cases c3 : x5_1 < (x0_1.length : Int)
   ·rw [if_pos c3] at H
    have c3b0 := decide_eq_true c3
    clear c3
    obtain ⟨c4, H⟩ := ifS H
    have c4b0 := decide_eq_true c4
    clear c4
    obtain ⟨y11, Ny11, H⟩ := nmA (α := List (S95)) (x0_1.set (x5_1 : Int).toNat (⟨x1_1, (rd_T95 x0_1 x5_1).f1, (rd_T95 x0_1 x5_1).f2, (rd_T95 x0_1 x5_1).f3⟩ : S95)) H; (try dsimp only at H)
    obtain ⟨y12, Ny12, H⟩ := nmA (α := List (S95)) (y11.set (x5_1 : Int).toNat (⟨(rd_T95 y11 x5_1).f0, wrap64 (x1_1 + 1), (rd_T95 y11 x5_1).f2, (rd_T95 y11 x5_1).f3⟩ : S95)) H; (try dsimp only at H)
    obtain ⟨y13, Ny13, H⟩ := nmA (α := List (S95)) (y12.set (x5_1 : Int).toNat (⟨(rd_T95 y12 x5_1).f0, (rd_T95 y12 x5_1).f1, wrap64 ((wrap64 (x1_1 + 1)) + 1), (rd_T95 y12 x5_1).f3⟩ : S95)) H; (try dsimp only at H)
    obtain ⟨y14, hy14⟩ := exE (α := List (S95)) (y13.set (x5_1 : Int).toNat (⟨(rd_T95 y13 x5_1).f0, (rd_T95 y13 x5_1).f1, (rd_T95 y13 x5_1).f2, wrap64 ((wrap64 ((wrap64 (x1_1 + 1)) + 1)) + 1)⟩ : S95)); (first | with_reducible replace H := nmZ hy14 H | rw [← hy14] at H); (try dsimp only at H); have Ny14 := Aside0.mk hy14; clear hy14
    have H' := Aside0.mk H
    clear H; obtain ⟨Ao9, co9, eo9⟩ := Kd.R_slice HO_0.out; subst eo9
    have p5 : 0 ≤ (x5_1 : Int) := pq0
    have q5 : (x5_1 : Int) < ((x0_1.length : Int) : Int) := pq0
    obtain ⟨go5, co5, eo5, gb5, gl5, cl5, HG5⟩ := Kd.R_form HO_0.out (by omega)
    (first | cases eo5 | (injection eo5 with ea_ en_ ec_; (first | subst ea_ | (injection ea_ with ea_; subst ea_)); subst ec_; clear en_))
    have GB5 := Aside0.mk gb5; have GG5 := Aside0.mk HG5; clear gb5 gl5 HG5; have HMgo5 := Aside0.mk (show (P0_ go5 ∨ w.heap.size ≤ go5) from (HO_0.out.1 _ rfl)); obtain ⟨ce5, hcl5, hM5, hcc5, hfr5⟩ := Kd.R_elem HO_0.out z95 (x5_1 : Int) p5 q5; obtain rfl := k95_openM hM5
    have hx5_0 : wr.cell? ⟨go5, (x5_1 : Int).toNat * 4, none⟩ = some (.int .i64 ((rd_T95 x0_1 x5_1).f0)) := hcc5 0 _ rfl
    have hx5_1 : wr.cell? ⟨go5, (x5_1 : Int).toNat * 4 + 1, none⟩ = some (.int .i64 ((rd_T95 x0_1 x5_1).f1)) := hcc5 1 _ rfl
    have hx5_2 : wr.cell? ⟨go5, (x5_1 : Int).toNat * 4 + 2, none⟩ = some (.int .i64 ((rd_T95 x0_1 x5_1).f2)) := hcc5 2 _ rfl
    have hx5_3 : wr.cell? ⟨go5, (x5_1 : Int).toNat * 4 + 3, none⟩ = some (.int .i64 ((rd_T95 x0_1 x5_1).f3)) := hcc5 3 _ rfl
    have hf5_0 : wr.frozen? ⟨go5, (x5_1 : Int).toNat * 4, none⟩ = false := hfr5 0
    have hf5_1 : wr.frozen? ⟨go5, (x5_1 : Int).toNat * 4 + 1, none⟩ = false := hfr5 1
    have hf5_2 : wr.frozen? ⟨go5, (x5_1 : Int).toNat * 4 + 2, none⟩ = false := hfr5 2
    have hf5_3 : wr.frozen? ⟨go5, (x5_1 : Int).toNat * 4 + 3, none⟩ = false := hfr5 3
    clear hcl5 hcc5 hfr5 hM5; replace p5 := eq_true p5; replace q5 := eq_true q5; have HX10 := Aside0.mk (show Kd.R k95 95 wr w0.heap.size (fun k_ => (P0_ k_ ∨ w.heap.size ≤ k_)) (.slice (some ⟨go5, 0, none⟩) x0_1.length co9) x0_1 from (raR HO_0)); obtain ⟨ce10, hcl10, hM10, hcc10, hfr10⟩ := Kd.R_elem HX10.out z95 (x5_1 : Int) (pq0) (by have h_ : (x5_1 : Int) < ((x0_1.length : Int) : Int) := pq0; first | exact h_ | (have e_ := (Kd.R_reads' HO_0.out).1; omega) | simpa using h_); obtain rfl := k95_openM hM10; have HP10 := Kd.R_seg HX10.out (x5_1 : Int) (pq0) (by have h_ : (x5_1 : Int) < ((x0_1.length : Int) : Int) := pq0; first | exact h_ | (have e_ := (Kd.R_reads' HO_0.out).1; omega) | simpa using h_) (seg := [.int .i64 x1_1]) (j := 0) hcl10 hcc10 (show 1 ≤ 4 from by decide) (x' := (⟨x1_1, (rd_T95 x0_1 x5_1).f1, (rd_T95 x0_1 x5_1).f2, (rd_T95 x0_1 x5_1).f3⟩ : S95)) (k95_mkM _ _ _ (⟨x1_1, (rd_T95 x0_1 x5_1).f1, (rd_T95 x0_1 x5_1).f2, (rd_T95 x0_1 x5_1).f3⟩ : S95) ) (fun _ hk => hk); have hx10_0 := hcc10 0 _ rfl
    (try simp only [show (k95).sz = 4 from rfl, Nat.mul_one, Nat.add_zero] at hx10_0)
    have hf10_0 := hfr10 0
    (try simp only [show (k95).sz = 4 from rfl, Nat.mul_one, Nat.add_zero] at hf10_0)
    clear hcl10 hcc10 hfr10 hM10
    go_wp2_with (first | ((with_reducible refine gate_store (t := 3) (p := 16) rfl ?_); refine store_event (t := 3) (p := 16) (v := ?vo_w11) (w1 := (wr.setCell ⟨go5, (x5_1 : Int).toNat * 4, none⟩ (.int .i64 x1_1))) ?hg ?ho ?hn ?hr ?_; (case ho => rfl); (case hg => rfl); (case hn => rfl); (case hr => exact gs); intro w11 hw; have hg : wr.grownBy w11 (some go5) := (by rw [hw]; exact HP10.2); have hp_ : Kd.R k95 95 w11 w0.heap.size (fun k_ => (P0_ k_ ∨ w.heap.size ≤ k_)) (.slice (some ⟨go5, 0, none⟩) x0_1.length co9) y11 := (by rw [hw, Ny11.out]; exact HP10.1); clear HP10; replace HB := Aside0.mk ((by rw [hw]; exact below_set (HB.out) GB5.out : Below w0.heap.size w0 w11)); replace HK := Aside0.mk (Kept.of_grown (S := (fun k_ => P0_ k_)) hg (by repeat (first | (with_reducible first | exact HK.out | apply Kept.alloc | apply Kept.drewN | apply Kept.drew) | exact HK.out)) (fun k_ e_ => (HO_0.out.1 k_ e_))); replace HO_0 := Aside0.mk (hp_); clear hg hw hp_; have p6 : 0 ≤ (x5_1 : Int) := pq0; have q6 : (x5_1 : Int) < ((x0_1.length : Int) : Int) := pq0; obtain ⟨ce6, hcl6, hM6, hcc6, hfr6⟩ := Kd.R_elem HO_0.out z95 (x5_1 : Int) p6 q6; obtain rfl := k95_openM hM6; have hx6_0 : w11.cell? ⟨go5, (x5_1 : Int).toNat * 4, none⟩ = some (.int .i64 ((rd_T95 y11 x5_1).f0)) := hcc6 0 _ rfl; have hx6_1 : w11.cell? ⟨go5, (x5_1 : Int).toNat * 4 + 1, none⟩ = some (.int .i64 ((rd_T95 y11 x5_1).f1)) := hcc6 1 _ rfl; have hx6_2 : w11.cell? ⟨go5, (x5_1 : Int).toNat * 4 + 2, none⟩ = some (.int .i64 ((rd_T95 y11 x5_1).f2)) := hcc6 2 _ rfl; have hx6_3 : w11.cell? ⟨go5, (x5_1 : Int).toNat * 4 + 3, none⟩ = some (.int .i64 ((rd_T95 y11 x5_1).f3)) := hcc6 3 _ rfl; have hf6_0 : w11.frozen? ⟨go5, (x5_1 : Int).toNat * 4, none⟩ = false := hfr6 0; have hf6_1 : w11.frozen? ⟨go5, (x5_1 : Int).toNat * 4 + 1, none⟩ = false := hfr6 1; have hf6_2 : w11.frozen? ⟨go5, (x5_1 : Int).toNat * 4 + 2, none⟩ = false := hfr6 2; have hf6_3 : w11.frozen? ⟨go5, (x5_1 : Int).toNat * 4 + 3, none⟩ = false := hfr6 3; clear hcl6 hcc6 hfr6 hM6; replace p6 := eq_true p6; replace q6 := eq_true q6; have HX12 := Aside0.mk (show Kd.R k95 95 w11 w0.heap.size (fun k_ => (P0_ k_ ∨ w.heap.size ≤ k_)) (.slice (some ⟨go5, 0, none⟩) x0_1.length co9) y11 from (raR HO_0)); obtain ⟨ce12, hcl12, hM12, hcc12, hfr12⟩ := Kd.R_elem HX12.out z95 (x5_1 : Int) (pq0) (by have h_ : (x5_1 : Int) < ((x0_1.length : Int) : Int) := pq0; first | exact h_ | (have e_ := (Kd.R_reads' HO_0.out).1; omega) | simpa using h_); obtain rfl := k95_openM hM12; have HP12 := Kd.R_seg HX12.out (x5_1 : Int) (pq0) (by have h_ : (x5_1 : Int) < ((x0_1.length : Int) : Int) := pq0; first | exact h_ | (have e_ := (Kd.R_reads' HO_0.out).1; omega) | simpa using h_) (seg := [.int .i64 (wrap64 (x1_1 + 1))]) (j := 1) hcl12 hcc12 (show 2 ≤ 4 from by decide) (x' := (⟨(rd_T95 y11 x5_1).f0, wrap64 (x1_1 + 1), (rd_T95 y11 x5_1).f2, (rd_T95 y11 x5_1).f3⟩ : S95)) (k95_mkM _ _ _ (⟨(rd_T95 y11 x5_1).f0, wrap64 (x1_1 + 1), (rd_T95 y11 x5_1).f2, (rd_T95 y11 x5_1).f3⟩ : S95) ) (fun _ hk => hk); have hx12_1 := hcc12 1 _ rfl; (try simp only [show (k95).sz = 4 from rfl, Nat.mul_one, Nat.add_zero] at hx12_1); have hf12_1 := hfr12 1; (try simp only [show (k95).sz = 4 from rfl, Nat.mul_one, Nat.add_zero] at hf12_1); clear hcl12 hcc12 hfr12 hM12) | ((with_reducible refine gate_store (t := 3) (p := 23) rfl ?_); refine store_event (t := 3) (p := 23) (v := ?vo_w13) (w1 := (w11.setCell ⟨go5, (x5_1 : Int).toNat * 4 + 1, none⟩ (.int .i64 (wrap64 (x1_1 + 1))))) ?hg ?ho ?hn ?hr ?_; (case ho => rfl); (case hg => rfl); (case hn => rfl); (case hr => exact gs); intro w13 hw; have hg : w11.grownBy w13 (some go5) := (by rw [hw]; exact HP12.2); have hp_ : Kd.R k95 95 w13 w0.heap.size (fun k_ => (P0_ k_ ∨ w.heap.size ≤ k_)) (.slice (some ⟨go5, 0, none⟩) x0_1.length co9) y12 := (by rw [hw, Ny12.out]; exact HP12.1); clear HP12; replace HB := Aside0.mk ((by rw [hw]; exact below_set (HB.out) GB5.out : Below w0.heap.size w0 w13)); replace HK := Aside0.mk (Kept.of_grown (S := (fun k_ => P0_ k_)) hg (by repeat (first | (with_reducible first | exact HK.out | apply Kept.alloc | apply Kept.drewN | apply Kept.drew) | exact HK.out)) (fun k_ e_ => (HO_0.out.1 k_ e_))); replace HO_0 := Aside0.mk (hp_); clear hg hw hp_; have p7 : 0 ≤ (x5_1 : Int) := pq0; have q7 : (x5_1 : Int) < ((x0_1.length : Int) : Int) := pq0; obtain ⟨ce7, hcl7, hM7, hcc7, hfr7⟩ := Kd.R_elem HO_0.out z95 (x5_1 : Int) p7 q7; obtain rfl := k95_openM hM7; have hx7_0 : w13.cell? ⟨go5, (x5_1 : Int).toNat * 4, none⟩ = some (.int .i64 ((rd_T95 y12 x5_1).f0)) := hcc7 0 _ rfl; have hx7_1 : w13.cell? ⟨go5, (x5_1 : Int).toNat * 4 + 1, none⟩ = some (.int .i64 ((rd_T95 y12 x5_1).f1)) := hcc7 1 _ rfl; have hx7_2 : w13.cell? ⟨go5, (x5_1 : Int).toNat * 4 + 2, none⟩ = some (.int .i64 ((rd_T95 y12 x5_1).f2)) := hcc7 2 _ rfl; have hx7_3 : w13.cell? ⟨go5, (x5_1 : Int).toNat * 4 + 3, none⟩ = some (.int .i64 ((rd_T95 y12 x5_1).f3)) := hcc7 3 _ rfl; have hf7_0 : w13.frozen? ⟨go5, (x5_1 : Int).toNat * 4, none⟩ = false := hfr7 0; have hf7_1 : w13.frozen? ⟨go5, (x5_1 : Int).toNat * 4 + 1, none⟩ = false := hfr7 1; have hf7_2 : w13.frozen? ⟨go5, (x5_1 : Int).toNat * 4 + 2, none⟩ = false := hfr7 2; have hf7_3 : w13.frozen? ⟨go5, (x5_1 : Int).toNat * 4 + 3, none⟩ = false := hfr7 3; clear hcl7 hcc7 hfr7 hM7; replace p7 := eq_true p7; replace q7 := eq_true q7; have HX14 := Aside0.mk (show Kd.R k95 95 w13 w0.heap.size (fun k_ => (P0_ k_ ∨ w.heap.size ≤ k_)) (.slice (some ⟨go5, 0, none⟩) x0_1.length co9) y12 from (raR HO_0)); obtain ⟨ce14, hcl14, hM14, hcc14, hfr14⟩ := Kd.R_elem HX14.out z95 (x5_1 : Int) (pq0) (by have h_ : (x5_1 : Int) < ((x0_1.length : Int) : Int) := pq0; first | exact h_ | (have e_ := (Kd.R_reads' HO_0.out).1; omega) | simpa using h_); obtain rfl := k95_openM hM14; have HP14 := Kd.R_seg HX14.out (x5_1 : Int) (pq0) (by have h_ : (x5_1 : Int) < ((x0_1.length : Int) : Int) := pq0; first | exact h_ | (have e_ := (Kd.R_reads' HO_0.out).1; omega) | simpa using h_) (seg := [.int .i64 (wrap64 ((wrap64 (x1_1 + 1)) + 1))]) (j := 2) hcl14 hcc14 (show 3 ≤ 4 from by decide) (x' := (⟨(rd_T95 y12 x5_1).f0, (rd_T95 y12 x5_1).f1, wrap64 ((wrap64 (x1_1 + 1)) + 1), (rd_T95 y12 x5_1).f3⟩ : S95)) (k95_mkM _ _ _ (⟨(rd_T95 y12 x5_1).f0, (rd_T95 y12 x5_1).f1, wrap64 ((wrap64 (x1_1 + 1)) + 1), (rd_T95 y12 x5_1).f3⟩ : S95) ) (fun _ hk => hk); have hx14_2 := hcc14 2 _ rfl; (try simp only [show (k95).sz = 4 from rfl, Nat.mul_one, Nat.add_zero] at hx14_2); have hf14_2 := hfr14 2; (try simp only [show (k95).sz = 4 from rfl, Nat.mul_one, Nat.add_zero] at hf14_2); clear hcl14 hcc14 hfr14 hM14) | ((with_reducible refine gate_store (t := 3) (p := 30) rfl ?_); refine store_event (t := 3) (p := 30) (v := ?vo_w15) (w1 := (w13.setCell ⟨go5, (x5_1 : Int).toNat * 4 + 2, none⟩ (.int .i64 (wrap64 ((wrap64 (x1_1 + 1)) + 1))))) ?hg ?ho ?hn ?hr ?_; (case ho => rfl); (case hg => rfl); (case hn => rfl); (case hr => exact gs); intro w15 hw; have hg : w13.grownBy w15 (some go5) := (by rw [hw]; exact HP14.2); have hp_ : Kd.R k95 95 w15 w0.heap.size (fun k_ => (P0_ k_ ∨ w.heap.size ≤ k_)) (.slice (some ⟨go5, 0, none⟩) x0_1.length co9) y13 := (by rw [hw, Ny13.out]; exact HP14.1); clear HP14; replace HB := Aside0.mk ((by rw [hw]; exact below_set (HB.out) GB5.out : Below w0.heap.size w0 w15)); replace HK := Aside0.mk (Kept.of_grown (S := (fun k_ => P0_ k_)) hg (by repeat (first | (with_reducible first | exact HK.out | apply Kept.alloc | apply Kept.drewN | apply Kept.drew) | exact HK.out)) (fun k_ e_ => (HO_0.out.1 k_ e_))); replace HO_0 := Aside0.mk (hp_); clear hg hw hp_; have p8 : 0 ≤ (x5_1 : Int) := pq0; have q8 : (x5_1 : Int) < ((x0_1.length : Int) : Int) := pq0; obtain ⟨ce8, hcl8, hM8, hcc8, hfr8⟩ := Kd.R_elem HO_0.out z95 (x5_1 : Int) p8 q8; obtain rfl := k95_openM hM8; have hx8_0 : w15.cell? ⟨go5, (x5_1 : Int).toNat * 4, none⟩ = some (.int .i64 ((rd_T95 y13 x5_1).f0)) := hcc8 0 _ rfl; have hx8_1 : w15.cell? ⟨go5, (x5_1 : Int).toNat * 4 + 1, none⟩ = some (.int .i64 ((rd_T95 y13 x5_1).f1)) := hcc8 1 _ rfl; have hx8_2 : w15.cell? ⟨go5, (x5_1 : Int).toNat * 4 + 2, none⟩ = some (.int .i64 ((rd_T95 y13 x5_1).f2)) := hcc8 2 _ rfl; have hx8_3 : w15.cell? ⟨go5, (x5_1 : Int).toNat * 4 + 3, none⟩ = some (.int .i64 ((rd_T95 y13 x5_1).f3)) := hcc8 3 _ rfl; have hf8_0 : w15.frozen? ⟨go5, (x5_1 : Int).toNat * 4, none⟩ = false := hfr8 0; have hf8_1 : w15.frozen? ⟨go5, (x5_1 : Int).toNat * 4 + 1, none⟩ = false := hfr8 1; have hf8_2 : w15.frozen? ⟨go5, (x5_1 : Int).toNat * 4 + 2, none⟩ = false := hfr8 2; have hf8_3 : w15.frozen? ⟨go5, (x5_1 : Int).toNat * 4 + 3, none⟩ = false := hfr8 3; clear hcl8 hcc8 hfr8 hM8; replace p8 := eq_true p8; replace q8 := eq_true q8; have HX16 := Aside0.mk (show Kd.R k95 95 w15 w0.heap.size (fun k_ => (P0_ k_ ∨ w.heap.size ≤ k_)) (.slice (some ⟨go5, 0, none⟩) x0_1.length co9) y13 from (raR HO_0)); obtain ⟨ce16, hcl16, hM16, hcc16, hfr16⟩ := Kd.R_elem HX16.out z95 (x5_1 : Int) (pq0) (by have h_ : (x5_1 : Int) < ((x0_1.length : Int) : Int) := pq0; first | exact h_ | (have e_ := (Kd.R_reads' HO_0.out).1; omega) | simpa using h_); obtain rfl := k95_openM hM16; have HP16 := Kd.R_seg HX16.out (x5_1 : Int) (pq0) (by have h_ : (x5_1 : Int) < ((x0_1.length : Int) : Int) := pq0; first | exact h_ | (have e_ := (Kd.R_reads' HO_0.out).1; omega) | simpa using h_) (seg := [.int .i64 (wrap64 ((wrap64 ((wrap64 (x1_1 + 1)) + 1)) + 1))]) (j := 3) hcl16 hcc16 (show 4 ≤ 4 from by decide) (x' := (⟨(rd_T95 y13 x5_1).f0, (rd_T95 y13 x5_1).f1, (rd_T95 y13 x5_1).f2, wrap64 ((wrap64 ((wrap64 (x1_1 + 1)) + 1)) + 1)⟩ : S95)) (k95_mkM _ _ _ (⟨(rd_T95 y13 x5_1).f0, (rd_T95 y13 x5_1).f1, (rd_T95 y13 x5_1).f2, wrap64 ((wrap64 ((wrap64 (x1_1 + 1)) + 1)) + 1)⟩ : S95) ) (fun _ hk => hk); have hx16_3 := hcc16 3 _ rfl; (try simp only [show (k95).sz = 4 from rfl, Nat.mul_one, Nat.add_zero] at hx16_3); have hf16_3 := hfr16 3; (try simp only [show (k95).sz = 4 from rfl, Nat.mul_one, Nat.add_zero] at hf16_3); clear hcl16 hcc16 hfr16 hM16) | ((with_reducible refine gate_store (t := 3) (p := 37) rfl ?_); refine store_event (t := 3) (p := 37) (v := ?vo_w17) (w1 := (w15.setCell ⟨go5, (x5_1 : Int).toNat * 4 + 3, none⟩ (.int .i64 (wrap64 ((wrap64 ((wrap64 (x1_1 + 1)) + 1)) + 1))))) ?hg ?ho ?hn ?hr ?_; (case ho => rfl); (case hg => rfl); (case hn => rfl); (case hr => exact gs); intro w17 hw; have hg : w15.grownBy w17 (some go5) := (by rw [hw]; exact HP16.2); have hp_ : Kd.R k95 95 w17 w0.heap.size (fun k_ => (P0_ k_ ∨ w.heap.size ≤ k_)) (.slice (some ⟨go5, 0, none⟩) x0_1.length co9) y14 := (by rw [hw, Ny14.out]; exact HP16.1); clear HP16; replace HB := Aside0.mk ((by rw [hw]; exact below_set (HB.out) GB5.out : Below w0.heap.size w0 w17)); replace HK := Aside0.mk (Kept.of_grown (S := (fun k_ => P0_ k_)) hg (by repeat (first | (with_reducible first | exact HK.out | apply Kept.alloc | apply Kept.drewN | apply Kept.drew) | exact HK.out)) (fun k_ e_ => (HO_0.out.1 k_ e_))); replace HO_0 := Aside0.mk (hp_); clear hg hw hp_))
    go_roundg k1
    case measure => have := HK1.out; omega
    case rel => exact ⟨(y14), (wrap64 ((wrap64 ((wrap64 ((wrap64 (x1_1 + 1)) + 1)) + 1)) + 1)), (wrap64 (x5_1 + 1)), rfx, rfx, H', ⟨by have := HK1.out; omega⟩, ⟨by (with_reducible repeat (first | apply Kd.R_alloc | apply Kd.R_drewN | apply Kd.R_drew)); exact HO_0.out⟩, ⟨by repeat (first | (with_reducible first | exact HK.out | apply Kept.alloc | apply Kept.drewN | apply Kept.drew) | exact HK.out)⟩, ⟨bels⟩⟩
   ·rw [if_neg c3] at H
    have c3b0 := decide_eq_false c3
    clear c3
    simp only [Option.some.injEq, Prod.mk.injEq] at H
    obtain ⟨rfl, rfl⟩ := H; obtain ⟨Ao18, co18, eo18⟩ := Kd.R_slice HO_0.out; subst eo18
    go_wp2
    go_ret
    exact ⟨rfe, by (with_reducible repeat (first | apply Kd.R_alloc | apply Kd.R_drewN | apply Kd.R_drew)); exact HO_0.out, bels, by repeat (first | (with_reducible first | exact HK.out | apply Kept.alloc | apply Kept.drewN | apply Kept.drew) | exact HK.out)⟩

/-! ### laws_markIntS: function 44 -/
def laws_markIntS.l0 : Nat → List Int → Int → Int → Option (Int × List Int)
 | 0, _, _, _ => none
 | k + 1, x0, x1, x5 => if x5 < (x0.length : Int) then (if 0 ≤ x5 then (laws_markIntS.l0 k (x0.set (x5 : Int).toNat x1) (wrap64 (x1 + 1)) (wrap64 (x5 + 1))) else (none)) else (some (x1, x0))
def laws_markIntS.f (k : Nat) (l0 : List Int) (a1 : Int) : Option (Int × List Int) := laws_markIntS.l0 k l0 a1 0
set_option maxHeartbeats 8000000 in
set_option maxRecDepth 100000 in
theorem laws_markIntS.calls (k : Nat) (P0_ : Nat → Prop) (u9000_ : Value) (l0 : List Int) (a1 : Int) (r1 : Int) (r2 : List Int) (w0 w : World) (hB : Below w0.heap.size w0 w) (ho0 : Kd.R (Kd.int .i64) 3 w w0.heap.size P0_ u9000_ l0) (h : laws_markIntS.f k l0 a1 = some (r1, r2)) :
  Calls Tryz.prog 44 #[u9000_, .int .i64 a1] w fun e w' => e = .returned (.int .i64 r1) ∧ Kd.R (Kd.int .i64) 3 w' w0.heap.size (fun k_ => (P0_ k_ ∨ w.heap.size ≤ k_)) u9000_ r2 ∧ Below w0.heap.size w0 w' ∧ Kept w w' (fun k_ => P0_ k_) := by
 have HO0 := Aside0.mk (show Kd.R (Kd.int .i64) 3 w w0.heap.size (fun k_ => (P0_ k_ ∨ w.heap.size ≤ k_)) u9000_ l0 from Kd.R_mono ho0 (fun k_ hk => (.inl hk))); have HK := Aside0.mk (Kept.refl w (fun k_ => P0_ k_)); have HW0 := Aside0.mk hB.size; have HB := Aside0.mk hB; clear hB
 have H : (laws_markIntS.l0 k l0 a1 0) = some (r1, r2) := h
 clear h
 have H' := Aside0.mk H
 clear H
 go_enter Tryz.func44, Tryz.ntmps44
 go_wp2
 go_loopg [1, 5] k (fun kq v1 v5 w' => ∃ (x0_1 : List Int) (x1_1 : Int) (x5_1 : Int), v1 = .int .i64 x1_1 ∧ v5 = .int .i64 x5_1 ∧ Aside0 (laws_markIntS.l0 kq x0_1 x1_1 x5_1 = some (r1, r2)) ∧ Aside0 (kq ≤ k) ∧ Aside0 (Kd.R (Kd.int .i64) 3 w' w0.heap.size (fun k_ => (P0_ k_ ∨ w.heap.size ≤ k_)) u9000_ x0_1) ∧ Aside0 (Kept w w' (fun k_ => P0_ k_)) ∧ Aside0 (Below w0.heap.size w0 w'))
 case atStart => exact ⟨(l0), (a1), (0), rfx, rfx, H', ⟨Nat.le_refl _⟩, ⟨by (with_reducible repeat (first | apply Kd.R_alloc | apply Kd.R_drewN | apply Kd.R_drew)); exact HO0.out⟩, ⟨by repeat (first | (with_reducible first | exact HK.out | apply Kept.alloc | apply Kept.drewN | apply Kept.drew) | exact HK.out)⟩, ⟨bels⟩⟩
 case round =>
  clear H'
  try clear p2
  obtain ⟨x0_1, x1_1, x5_1, rfl, rfl, HA, HK1, HO_0, HK, HB⟩ := hrel
  cases gk with
  | zero => exact absurd HA.out (by simp [laws_markIntS.l0])
  | succ k1 =>
   have H := HA.out; clear HA
   simp only [laws_markIntS.l0] at H
   by_cases c3 : x5_1 < (x0_1.length : Int)
   ·rw [if_pos c3] at H
    have c3b0 := decide_eq_true c3
    clear c3
    obtain ⟨c4, H⟩ := ifS H
    have c4b0 := decide_eq_true c4
    clear c4
    obtain ⟨y11, hy11⟩ := exE (α := List Int) (x0_1.set (x5_1 : Int).toNat x1_1); (first | with_reducible replace H := nmZ hy11 H | rw [← hy11] at H); (try dsimp only at H); have Ny11 := Aside0.mk hy11; clear hy11
    have H' := Aside0.mk H
    clear H; obtain ⟨Ao6, co6, eo6⟩ := Kd.R_slice HO_0.out; subst eo6
    have p5 : 0 ≤ (x5_1 : Int) := pq0
    have q5 : (x5_1 : Int) < ((x0_1.length : Int) : Int) := pq0
    obtain ⟨go5, co5, eo5, gb5, gl5, cl5, HG5⟩ := Kd.R_form HO_0.out (by omega)
    (first | cases eo5 | (injection eo5 with ea_ en_ ec_; (first | subst ea_ | (injection ea_ with ea_; subst ea_)); subst ec_; clear en_))
    have GB5 := Aside0.mk gb5; have GG5 := Aside0.mk HG5; clear gb5 gl5 HG5; have HMgo5 := Aside0.mk (show (P0_ go5 ∨ w.heap.size ≤ go5) from (HO_0.out.1 _ rfl)); obtain ⟨hx5_0, hf5_0⟩ := Kd.R_celln 0 HO_0.out (x5_1 : Int) p5 q5; replace p5 := eq_true p5; replace q5 := eq_true q5; have HP7 := Kd.R_putg HO_0.out (x5_1 : Int) x1_1
    go_wp2_with (first | ((with_reducible refine gate_store (t := 3) (p := 15) rfl ?_); refine store_event (t := 3) (p := 15) (v := ?vo_w8) (w1 := (wr.setCell ⟨go5, (x5_1 : Int).toNat, none⟩ (.int .i64 x1_1))) ?hg ?ho ?hn ?hr ?_; (case ho => rfl); (case hg => rfl); (case hn => rfl); (case hr => exact gs); intro w8 hw; have hg : wr.grownBy w8 (some go5) := (by rw [hw]; exact HP7.2); have hp_ : Kd.R (Kd.int .i64) 3 w8 w0.heap.size (fun k_ => (P0_ k_ ∨ w.heap.size ≤ k_)) (.slice (some ⟨go5, 0, none⟩) x0_1.length co6) y11 := (by rw [hw, Ny11.out]; exact HP7.1); clear HP7; replace HB := Aside0.mk ((by rw [hw]; exact below_set (HB.out) GB5.out : Below w0.heap.size w0 w8)); replace HK := Aside0.mk (Kept.of_grown (S := (fun k_ => P0_ k_)) hg (by repeat (first | (with_reducible first | exact HK.out | apply Kept.alloc | apply Kept.drewN | apply Kept.drew) | exact HK.out)) (fun k_ e_ => (HO_0.out.1 k_ e_))); replace HO_0 := Aside0.mk (hp_); clear hg hw hp_))
    go_roundg k1
    case measure => have := HK1.out; omega
    case rel => exact ⟨(y11), (wrap64 (x1_1 + 1)), (wrap64 (x5_1 + 1)), rfx, rfx, H', ⟨by have := HK1.out; omega⟩, ⟨by (with_reducible repeat (first | apply Kd.R_alloc | apply Kd.R_drewN | apply Kd.R_drew)); exact HO_0.out⟩, ⟨by repeat (first | (with_reducible first | exact HK.out | apply Kept.alloc | apply Kept.drewN | apply Kept.drew) | exact HK.out)⟩, ⟨bels⟩⟩
   ·rw [if_neg c3] at H
    have c3b0 := decide_eq_false c3
    clear c3
    simp only [Option.some.injEq, Prod.mk.injEq] at H
    obtain ⟨rfl, rfl⟩ := H; obtain ⟨Ao9, co9, eo9⟩ := Kd.R_slice HO_0.out; subst eo9
    go_wp2
    go_ret
    exact ⟨rfe, by (with_reducible repeat (first | apply Kd.R_alloc | apply Kd.R_drewN | apply Kd.R_drew)); exact HO_0.out, bels, by repeat (first | (with_reducible first | exact HK.out | apply Kept.alloc | apply Kept.drewN | apply Kept.drew) | exact HK.out)⟩

end Go.Proofs.YtmnkbchieplicaaGreatDoor.Q
