/- Contracts of functions of the program and of the laws, written by program out of the translation; conditions: as each theorem says. -/
import Derived.Test.YtmnkbchieplicaaGreatDoorKFnExactFormatBlock20
namespace Go.Proofs.YtmnkbchieplicaaGreatDoor.Q
open Go.RowKit Go.Proofs.YtmnkbchieplicaaGreatDoorW.PrintWords Go.Proofs.YtmnkbchieplicaaGreatDoorW.PrintLast Go.Proofs.YtmnkbchieplicaaGreatDoorW.PrintMore
attribute [local go_sem] max2_int min2_int max_two min_two max_three min_three max_four min_four   -- for this text's walks alone
set_option linter.unusedVariables false
set_option linter.unusedSimpArgs false

/-! ### impl_Warp_splits: function 88 -/
def impl_Warp_splits.j0 : Nat → List (S95) → Int → Bool → Int → List (S132) → List Int → Option (Bool)
 | 0, _, _, _, _, _, _ => none
 | k + 1, x1, x5, x31, x12000, x12001, x12002 => if x31 = true then (some false) else (if 0 ≤ x5 then (if x5 < (x1.length : Int) then ((impl_Warp_zeroMask.f x12000 x12001 x12002 ((rd_T95 x1 x5).f1)).bind fun t16 => (if t16 = 0 then (some false) else ((impl_ActiveMask.f x12000 x12001 x12002).bind fun t17 => (some (t16 != t17))))) else (none)) else (none))
def impl_Warp_splits.f (k : Nat) (a0_0 : Int) (l0_1 : List (S132)) (l0_2 : List Int) (l1 : List (S95)) : Option (Bool) := if 0 ≤ (wrap64 ((l0_1.length : Int) - 1)) then (if (wrap64 ((l0_1.length : Int) - 1)) < (l0_1.length : Int) then (if 0 ≤ ((rd_T132 l0_1 (wrap64 ((l0_1.length : Int) - 1))).f0) then (if ((rd_T132 l0_1 (wrap64 ((l0_1.length : Int) - 1))).f0) < (l1.length : Int) then (if ((rd_T95 l1 ((rd_T132 l0_1 (wrap64 ((l0_1.length : Int) - 1))).f0)).f0) = 10 then (impl_Warp_splits.j0 k l1 ((rd_T132 l0_1 (wrap64 ((l0_1.length : Int) - 1))).f0) (((rd_T95 l1 ((rd_T132 l0_1 (wrap64 ((l0_1.length : Int) - 1))).f0)).f2) == (wrap64 (((rd_T132 l0_1 (wrap64 ((l0_1.length : Int) - 1))).f0) + 1))) a0_0 l0_1 l0_2) else (impl_Warp_splits.j0 k l1 ((rd_T132 l0_1 (wrap64 ((l0_1.length : Int) - 1))).f0) true a0_0 l0_1 l0_2)) else (none)) else (none)) else (none)) else (none)
def impl_Warp_splits.T4 : Bool × List (List Nat × List Nat) := (true, [([], []), ([], []), ([], []), ([1, 2], [1, 2]), ([3], [3]), ([4], [4]), ([0, 5], [0, 5]), ([6, 6, 0, 1, 2, 3, 4, 5, 6], [6])])
def impl_Warp_splits.B4 : List Nat := [0, 0, 0, 6, 14, 30, 63, 127]
theorem impl_Warp_splits.tab4 : rtab .any (opsOf Tryz.f88 4) = impl_Warp_splits.T4 := by kernel_rfl
theorem impl_Warp_splits.bits4 : waitsOk impl_Warp_splits.T4.2 impl_Warp_splits.B4 = true := by kernel_rfl
set_option maxHeartbeats 8000000 in
set_option maxRecDepth 100000 in
theorem impl_Warp_splits.calls (k : Nat) (a0_0 : Int) (A0_1 : Option Addr) (c0_1 : Nat) (l0_1 : List (S132)) (A0_2 : Option Addr) (c0_2 : Nat) (l0_2 : List Int) (A1 : Option Addr) (c1 : Nat) (l1 : List (S95)) (r : Bool) (w : World) (hr0_1 : Kd.C k132 w A0_1 l0_1.length l0_1) (hc0_1 : l0_1.length ≤ c0_1) (hr0_2 : Kd.C (Kd.int .i64) w A0_2 l0_2.length l0_2) (hc0_2 : l0_2.length ≤ c0_2) (hr1 : Kd.C k95 w A1 l1.length l1) (hc1 : l1.length ≤ c1) (h : impl_Warp_splits.f k a0_0 l0_1 l0_2 l1 = some r) :
  Calls Tryz.prog 88 #[.agg #[.int .i64 a0_0, .slice A0_1 l0_1.length c0_1, .slice A0_2 l0_2.length c0_2], .slice A1 l1.length c1] w fun e w' => e = .returned (.bool r) ∧ Below w.heap.size w w' := by
 have hu59 := Tryz.underlying59; have HR0_1 := Aside0.mk hr0_1; have HC0_1 := Aside0.mk hc0_1; clear hr0_1 hc0_1; have HR0_2 := Aside0.mk hr0_2; have HC0_2 := Aside0.mk hc0_2; clear hr0_2 hc0_2; have HR1 := Aside0.mk hr1; have HC1 := Aside0.mk hc1; clear hr1 hc1; have HB := Aside0.mk (Below.refl w.heap.size w)
 have H : (if 0 ≤ (wrap64 ((l0_1.length : Int) - 1)) then (if (wrap64 ((l0_1.length : Int) - 1)) < (l0_1.length : Int) then (if 0 ≤ ((rd_T132 l0_1 (wrap64 ((l0_1.length : Int) - 1))).f0) then (if ((rd_T132 l0_1 (wrap64 ((l0_1.length : Int) - 1))).f0) < (l1.length : Int) then (if ((rd_T95 l1 ((rd_T132 l0_1 (wrap64 ((l0_1.length : Int) - 1))).f0)).f0) = 10 then (impl_Warp_splits.j0 k l1 ((rd_T132 l0_1 (wrap64 ((l0_1.length : Int) - 1))).f0) (((rd_T95 l1 ((rd_T132 l0_1 (wrap64 ((l0_1.length : Int) - 1))).f0)).f2) == (wrap64 (((rd_T132 l0_1 (wrap64 ((l0_1.length : Int) - 1))).f0) + 1))) a0_0 l0_1 l0_2) else (impl_Warp_splits.j0 k l1 ((rd_T132 l0_1 (wrap64 ((l0_1.length : Int) - 1))).f0) true a0_0 l0_1 l0_2)) else (none)) else (none)) else (none)) else (none)) = some r := h
 clear h
 obtain ⟨ji3, hji3⟩ : ∃ j_ : Int, (wrap64 ((l0_1.length : Int) - 1)) = j_ := ⟨_, rfl⟩
 (first | rw [hji3] at H | simp only [hji3] at H)
 have hji3w : (IntKind.i64.wrap ((l0_1.length : Int) - 1)) = ji3 := (i64_w _).trans hji3
 obtain ⟨c4, H⟩ := ifS H
 have c4b0 := decide_eq_true c4
 clear c4
 obtain ⟨c5, H⟩ := ifS H
 have c5b0 := decide_eq_true c5
 clear c5; have HC6 := Aside0.mk H; clear H
 go_enter Tryz.func88, Tryz.ntmps88
 go_upto_region 2 with (first | (refine bxe 2 #[.int .i64 a0_0, .slice A0_1 l0_1.length c0_1, .slice A0_2 l0_2.length c0_2] 59 ?_; intro gb11 hg w7 hbox hb; have BK11 := Aside0.mk (hbox); have GW11 := Aside0.mk (gwe hg : w.heap.size ≤ _); have GE11 := GW11; replace HB := hbs hb; clear hb hbox hg; obtain ⟨_, _, _, _, _, _⟩ := box3 BK11; have p12 : 0 ≤ ((ji3) : Int) := pq0; have q12 : (ji3) < (l0_1.length : Int) := pq0; obtain ⟨ad12, e12, hx12_0, hx12_1, hx12_2⟩ := at_T132 HR0_1.out (ji3) p12 q12; cases e12; replace hx12_0 := hxb hx12_0; replace hx12_1 := hxb hx12_1; replace hx12_2 := hxb hx12_2; replace p12 := eq_true p12; replace q12 := eq_true q12))
 (try simp only [Act.put, List.setIfInBounds_toArray, List.set_cons_zero, List.set_cons_succ])
 go_cut [31] (fun v31 wc => ∃ (kq : Nat) (x31_5 : Bool), v31 = .bool x31_5 ∧ Aside0 (impl_Warp_splits.j0 kq l1 ((rd_T132 l0_1 (ji3)).f0) x31_5 a0_0 l0_1 l0_2 = some r) ∧ Aside0 (kq ≤ k) ∧ Aside0 (wc.heap[gb11]? = some (.cells #[.int .i64 a0_0, (.slice (some ad12) l0_1.length c0_1), (.slice A0_2 l0_2.length c0_2)] 59 (0, 0))) ∧ Aside0 (Below w.heap.size w wc))
 case first =>
  have H := HC6.out; clear HC6
  obtain ⟨c9, H⟩ := ifS H
  have c9b0 := decide_eq_true c9
  clear c9
  (first | rw [c9b0] | (simp only [i64_w, i32_w]; rw [c9b0]) | skip)
  obtain ⟨c10, H⟩ := ifS H
  have c10b0 := decide_eq_true c10
  clear c10
  by_cases c11 : ((rd_T95 l1 ((rd_T132 l0_1 (ji3)).f0)).f0) = 10
  ·rw [if_pos c11] at H
   have c11b0 : (((rd_T95 l1 ((rd_T132 l0_1 (ji3)).f0)).f0) == 10) = true := beq_iff_eq.mpr c11
   have c11b1 : (((rd_T95 l1 ((rd_T132 l0_1 (ji3)).f0)).f0) != 10) = false := bne_eq_false_iff_eq.mpr c11
   clear c11
   have H' := Aside0.mk H
   clear H
   have p13 : 0 ≤ (((rd_T132 l0_1 (ji3)).f0) : Int) := pq0
   have q13 : ((rd_T132 l0_1 (ji3)).f0) < (l1.length : Int) := pq0
   obtain ⟨ad13, e13, hx13_0, hx13_1, hx13_2, hx13_3⟩ := at_T95 HR1.out ((rd_T132 l0_1 (ji3)).f0) p13 q13
   cases e13
   replace hx13_0 := hxb hx13_0; replace hx13_1 := hxb hx13_1; replace hx13_2 := hxb hx13_2; replace hx13_3 := hxb hx13_3; replace p13 := eq_true p13; replace q13 := eq_true q13
   have p14 : 0 ≤ (((rd_T132 l0_1 (ji3)).f0) : Int) := pq0
   have q14 : ((rd_T132 l0_1 (ji3)).f0) < (l1.length : Int) := pq0
   obtain ⟨ad14, e14, hx14_0, hx14_1, hx14_2, hx14_3⟩ := at_T95 HR1.out ((rd_T132 l0_1 (ji3)).f0) p14 q14
   obtain rfl : ad13 = ad14 := (by injection e14)
   replace hx14_0 := hxb hx14_0; replace hx14_1 := hxb hx14_1; replace hx14_2 := hxb hx14_2; replace hx14_3 := hxb hx14_3; replace p14 := eq_true p14; replace q14 := eq_true q14
   go_wp2
   go_meet
   case rel => exact ⟨_, ((((rd_T95 l1 ((rd_T132 l0_1 (ji3)).f0)).f2) == (wrap64 (((rd_T132 l0_1 (ji3)).f0) + 1)))), (by first | rfl | (simp; done) | (simp only [← hji3] <;> (first | rfl | simp)) | (simp [*]; done)), H', ⟨omx⟩, ⟨bk⟩, ⟨bels⟩⟩
  ·rw [if_neg c11] at H
   have c11b0 : (((rd_T95 l1 ((rd_T132 l0_1 (ji3)).f0)).f0) == 10) = false := beq_eq_false_iff_ne.mpr c11
   have c11b1 : (((rd_T95 l1 ((rd_T132 l0_1 (ji3)).f0)).f0) != 10) = true := bne_iff_ne.mpr c11
   have H' := Aside0.mk H
   clear H
   have p13 : 0 ≤ (((rd_T132 l0_1 (ji3)).f0) : Int) := pq0
   have q13 : ((rd_T132 l0_1 (ji3)).f0) < (l1.length : Int) := pq0
   obtain ⟨ad13, e13, hx13_0, hx13_1, hx13_2, hx13_3⟩ := at_T95 HR1.out ((rd_T132 l0_1 (ji3)).f0) p13 q13
   cases e13
   replace hx13_0 := hxb hx13_0; replace hx13_1 := hxb hx13_1; replace hx13_2 := hxb hx13_2; replace hx13_3 := hxb hx13_3; replace p13 := eq_true p13; replace q13 := eq_true q13
   go_wp2
   go_meet
   case rel => exact ⟨_, (true), rfx, H', ⟨omx⟩, ⟨bk⟩, ⟨bels⟩⟩
 case rest =>
  clear HC6
  try clear c1
  try clear p1
  try clear q1
  try clear hx1
  try clear p2
  try clear c4
  try clear c4b0
  try clear c5
  try clear c5b0
  try clear p6
  try clear c8
  try clear c9
  try clear c9b0
  try clear c10
  try clear c10b0
  try clear c11
  try clear c11b0
  try clear c11b1
  try clear hx12_0
  try clear hx12_1
  try clear hx12_2
  try clear hx13_0
  try clear hx13_1
  try clear hx13_2
  try clear hx13_3
  try clear hx14_0
  try clear hx14_1
  try clear hx14_2
  try clear hx14_3
  try clear p12
  try clear p13
  try clear p14
  try clear q12
  try clear q13
  try clear q14
  obtain ⟨kq, x31_5, rfl, HA, HJ5, BK11, HB⟩ := hcut
  cases kq with
  | zero => exact absurd HA.out (by simp [impl_Warp_splits.j0])
  | succ kj5 =>
   have H := HA.out; clear HA
   simp only [impl_Warp_splits.j0] at H
   by_cases c12 : x31_5 = true
   ·subst c12; rw [if_pos rfl] at H; obtain rfl := oI H
    go_wp2
    go_ret
    exact ⟨by first | rfl | (simp [errW_none, errW_some] <;> rfl) | (simp only [← hji3]; first | rfl | (simp [errW_none, errW_some] <;> rfl)) | (simp [*, errW_none, errW_some] <;> rfl), bels⟩
   ·replace c12 := Bool.eq_false_iff.mpr c12; subst c12; rw [if_neg (by decide)] at H
    obtain ⟨c13, H⟩ := ifS H
    have c13b0 := decide_eq_true c13
    clear c13
    obtain ⟨c14, H⟩ := ifS H
    have c14b0 := decide_eq_true c14
    clear c14; obtain ⟨t16, A15, H⟩ := bnd H; (try dsimp only at H)
    by_cases c16 : t16 = 0
    ·rw [if_pos c16] at H
     have c16b0 : (t16 == 0) = true := beq_iff_eq.mpr c16
     have c16b1 : (t16 != 0) = false := bne_eq_false_iff_eq.mpr c16
     clear c16; obtain rfl := oI H
     try go_wp2
     replace BK11 := Aside0.mk (blk_drew BK11.out); replace HB := Aside0.mk (below_drew1 HB.out)
     have p15 : 0 ≤ (((rd_T132 l0_1 (ji3)).f0) : Int) := pq0
     have q15 : ((rd_T132 l0_1 (ji3)).f0) < (l1.length : Int) := pq0
     obtain ⟨ad15, e15, hx15_0, hx15_1, hx15_2, hx15_3⟩ := at_T95 HR1.out ((rd_T132 l0_1 (ji3)).f0) p15 q15; have hw15_3 := hx15_3; have hw15_2 := hx15_2; have hw15_1 := hx15_1; have hw15_0 := hx15_0
     cases e15
     replace hx15_0 := hxb hx15_0; replace hx15_1 := hxb hx15_1; replace hx15_2 := hxb hx15_2; replace hx15_3 := hxb hx15_3; replace p15 := eq_true p15; replace q15 := eq_true q15
     refine start_ (n := 8) (S := fun w' => w'.cell? ⟨gb11, 0, none⟩ = some (.int .i64 a0_0) ∧ w'.cell? ⟨gb11, 1, none⟩ = some (.slice (some ad12) l0_1.length c0_1) ∧ w'.cell? ⟨gb11, 2, none⟩ = some (.slice A0_2 l0_2.length c0_2) ∧ w'.cell? (ad15.add ((((rd_T132 l0_1 (ji3)).f0)).toNat * 4)) = some (.int .i64 ((rd_T95 l1 ((rd_T132 l0_1 (ji3)).f0)).f0)) ∧ w'.cell? ⟨(ad15.add ((((rd_T132 l0_1 (ji3)).f0)).toNat * 4)).block, (ad15.add ((((rd_T132 l0_1 (ji3)).f0)).toNat * 4)).off + 1, none⟩ = some (.int .i64 ((rd_T95 l1 ((rd_T132 l0_1 (ji3)).f0)).f1)) ∧ w'.cell? ⟨(ad15.add ((((rd_T132 l0_1 (ji3)).f0)).toNat * 4)).block, (ad15.add ((((rd_T132 l0_1 (ji3)).f0)).toNat * 4)).off + 2, none⟩ = some (.int .i64 ((rd_T95 l1 ((rd_T132 l0_1 (ji3)).f0)).f2)) ∧ w'.cell? ⟨(ad15.add ((((rd_T132 l0_1 (ji3)).f0)).toNat * 4)).block, (ad15.add ((((rd_T132 l0_1 (ji3)).f0)).toNat * 4)).off + 3, none⟩ = some (.int .i64 ((rd_T95 l1 ((rd_T132 l0_1 (ji3)).f0)).f3))) (ds := []) _ (by kernel_rfl) rfl rfl ⟨bz BK11 0, bz BK11 1, bz BK11 2, (hxb hw15_0), (hxb hw15_1), (hxb hw15_2), (hxb hw15_3)⟩ (fun hHeld => ?_); refine with_tabW impl_Warp_splits.tab4 impl_Warp_splits.bits4 (fun HT_ HW_ => ?_)
     generalize wc.drew = w17 at BK11 HB hx15_0 hx15_1 hx15_2 hx15_3 hHeld ⊢; refine wp 1 5 ?_; refine tm7 0 32 ?_; refine tm7 5 37 ?_; refine om 6 38 (fun K hK => ?_); refine goes_ Tryz.func128 (by kernel_rfl) rfl #[.agg #[.int .i64 a0_0, .slice (some ad12) l0_1.length c0_1, .slice A0_2 l0_2.length c0_2], .int .i64 ((rd_T95 l1 ((rd_T132 l0_1 (ji3)).f0)).f1)] (by rfl) rfl rfl (by (try simp only [List.map_toArray, List.map_cons, List.map_nil]); first | done | (simp only [hji3]; rfl) | rfl | (simp only [List.length_drop, List.length_take]; rfl)) ?_; refine (impl_Warp_zeroMask.calls a0_0 _ _ l0_1 _ _ l0_2 ((rd_T95 l1 ((rd_T132 l0_1 (ji3)).f0)).f1) t16 _ (cb HR0_1) HC0_1.out (cb HR0_2) HC0_2.out A15.out).mono ?_; rintro e w18 ⟨rfl, hb⟩; refine ⟨_, rfl, ?_⟩; replace BK11 := kb BK11 hb; replace HB := hbs hb; clear hb; refine hK.out _ _ hd (fun hHeld => ?_); clear hK K; refine nm 38 ?_; refine pm 7 6 ?_
     refine done_ (done_of HT_.out (by kernel_rfl)) ?_
     try go_wp2
     go_ret
     exact ⟨by first | rfl | (simp [errW_none, errW_some] <;> rfl) | (simp only [← hji3]; first | rfl | (simp [errW_none, errW_some] <;> rfl)) | (simp [*, errW_none, errW_some] <;> rfl), bels⟩
    ·rw [if_neg c16] at H
     have c16b0 : (t16 == 0) = false := beq_eq_false_iff_ne.mpr c16
     have c16b1 : (t16 != 0) = true := bne_iff_ne.mpr c16
     obtain ⟨t17, A19, H⟩ := bnd H; (try dsimp only at H); obtain rfl := oI H
     try go_wp2
     replace BK11 := Aside0.mk (blk_drew BK11.out); replace HB := Aside0.mk (below_drew1 HB.out)
     have p15 : 0 ≤ (((rd_T132 l0_1 (ji3)).f0) : Int) := pq0
     have q15 : ((rd_T132 l0_1 (ji3)).f0) < (l1.length : Int) := pq0
     obtain ⟨ad15, e15, hx15_0, hx15_1, hx15_2, hx15_3⟩ := at_T95 HR1.out ((rd_T132 l0_1 (ji3)).f0) p15 q15; have hw15_3 := hx15_3; have hw15_2 := hx15_2; have hw15_1 := hx15_1; have hw15_0 := hx15_0
     cases e15
     replace hx15_0 := hxb hx15_0; replace hx15_1 := hxb hx15_1; replace hx15_2 := hxb hx15_2; replace hx15_3 := hxb hx15_3; replace p15 := eq_true p15; replace q15 := eq_true q15
     refine start_ (n := 8) (S := fun w' => w'.cell? ⟨gb11, 0, none⟩ = some (.int .i64 a0_0) ∧ w'.cell? ⟨gb11, 1, none⟩ = some (.slice (some ad12) l0_1.length c0_1) ∧ w'.cell? ⟨gb11, 2, none⟩ = some (.slice A0_2 l0_2.length c0_2) ∧ w'.cell? (ad15.add ((((rd_T132 l0_1 (ji3)).f0)).toNat * 4)) = some (.int .i64 ((rd_T95 l1 ((rd_T132 l0_1 (ji3)).f0)).f0)) ∧ w'.cell? ⟨(ad15.add ((((rd_T132 l0_1 (ji3)).f0)).toNat * 4)).block, (ad15.add ((((rd_T132 l0_1 (ji3)).f0)).toNat * 4)).off + 1, none⟩ = some (.int .i64 ((rd_T95 l1 ((rd_T132 l0_1 (ji3)).f0)).f1)) ∧ w'.cell? ⟨(ad15.add ((((rd_T132 l0_1 (ji3)).f0)).toNat * 4)).block, (ad15.add ((((rd_T132 l0_1 (ji3)).f0)).toNat * 4)).off + 2, none⟩ = some (.int .i64 ((rd_T95 l1 ((rd_T132 l0_1 (ji3)).f0)).f2)) ∧ w'.cell? ⟨(ad15.add ((((rd_T132 l0_1 (ji3)).f0)).toNat * 4)).block, (ad15.add ((((rd_T132 l0_1 (ji3)).f0)).toNat * 4)).off + 3, none⟩ = some (.int .i64 ((rd_T95 l1 ((rd_T132 l0_1 (ji3)).f0)).f3))) (ds := []) _ (by kernel_rfl) rfl rfl ⟨bz BK11 0, bz BK11 1, bz BK11 2, (hxb hw15_0), (hxb hw15_1), (hxb hw15_2), (hxb hw15_3)⟩ (fun hHeld => ?_); refine with_tabW impl_Warp_splits.tab4 impl_Warp_splits.bits4 (fun HT_ HW_ => ?_)
     generalize wc.drew = w20 at BK11 HB hx15_0 hx15_1 hx15_2 hx15_3 hHeld ⊢; refine wp 1 5 ?_; refine tm7 0 32 ?_; refine tm7 5 37 ?_; refine om 6 38 (fun K hK => ?_); refine goes_ Tryz.func128 (by kernel_rfl) rfl #[.agg #[.int .i64 a0_0, .slice (some ad12) l0_1.length c0_1, .slice A0_2 l0_2.length c0_2], .int .i64 ((rd_T95 l1 ((rd_T132 l0_1 (ji3)).f0)).f1)] (by rfl) rfl rfl (by (try simp only [List.map_toArray, List.map_cons, List.map_nil]); first | done | (simp only [hji3]; rfl) | rfl | (simp only [List.length_drop, List.length_take]; rfl)) ?_; refine (impl_Warp_zeroMask.calls a0_0 _ _ l0_1 _ _ l0_2 ((rd_T95 l1 ((rd_T132 l0_1 (ji3)).f0)).f1) t16 _ (cb HR0_1) HC0_1.out (cb HR0_2) HC0_2.out A15.out).mono ?_; rintro e w21 ⟨rfl, hb⟩; refine ⟨_, rfl, ?_⟩; replace BK11 := kb BK11 hb; replace HB := hbs hb; clear hb; refine hK.out _ _ hd (fun hHeld => ?_); clear hK K; refine nm 38 ?_; refine pm 7 6 ?_
     refine done_ (done_of HT_.out (by kernel_rfl)) ?_
     obtain ⟨_, _, _, _, _, _⟩ := box3 BK11
     try go_wp2_with (first | (go_at_call 129; refine (impl_ActiveMask.calls a0_0 _ _ l0_1 _ _ l0_2 t17 _ (cb HR0_1) HC0_1.out (cb HR0_2) HC0_2.out A19.out).mono ?_; rintro e w23 ⟨rfl, hb⟩; replace BK11 := kb BK11 hb; replace HB := hbs hb; clear hb))
     go_ret
     exact ⟨by first | rfl | (simp [errW_none, errW_some] <;> rfl) | (simp only [← hji3]; first | rfl | (simp [errW_none, errW_some] <;> rfl)) | (simp [*, errW_none, errW_some] <;> rfl), bels⟩

/-! ### impl_Block_canStep: function 49 -/
def impl_Block_canStep.j0 : Nat → Int → Bool → List (S95) → List (S59) → List Int → Int → Int → Int → Int → Int → Int → Option (Bool)
 | 0, _, _, _, _, _, _, _, _, _, _, _ => none
 | k + 1, x1, x13, x12000, x12001, x12002, x12003, x12004, x18000, x18001, x18002, x18003 => if x13 = true then (some false) else (if x18000 = 16 then (if 0 ≤ x1 then (if x1 < (x12001.length : Int) then (some ((((rd_T59 x12001 x1).f1).length : Int) == 1)) else (none)) else (none)) else ((impl_IsLocal.f x18000 x18001 x18002 x18003).bind fun t20 => (if t20 = true then (if 0 ≤ x1 then (if x1 < (x12001.length : Int) then ((impl_Warp_splits.f k ((rd_T59 x12001 x1).f0) ((rd_T59 x12001 x1).f1) ((rd_T59 x12001 x1).f2) x12000).bind fun t22 => (if t22 = true then (some (decide ((wrap64 ((((rd_T59 x12001 x1).f1).length : Int) + 2)) ≤ 24))) else (some true))) else (none)) else (none)) else (some true))))
def impl_Block_canStep.f (k : Nat) (l0_0 : List (S95)) (l0_1 : List (S59)) (l0_2 : List Int) (a0_3 : Int) (a0_4 : Int) (a1 : Int) : Option (Bool) := (impl_Block_nextIns.f l0_0 l0_1 l0_2 a0_3 a0_4 a1).bind fun bt12 => (if bt12.2.2.2.2 = true then ((impl_Block_waits.f l0_0 l0_1 l0_2 a0_3 a0_4 a1).bind fun t18 => (impl_Block_canStep.j0 k a1 t18 l0_0 l0_1 l0_2 a0_3 a0_4 bt12.1 bt12.2.1 bt12.2.2.1 bt12.2.2.2.1)) else (impl_Block_canStep.j0 k a1 true l0_0 l0_1 l0_2 a0_3 a0_4 bt12.1 bt12.2.1 bt12.2.2.1 bt12.2.2.2.1))
def impl_Block_canStep.T7 : Bool × List (List Nat × List Nat) := (true, [([], []), ([0], [0]), ([], []), ([1, 2], [1, 2]), ([3], [3]), ([], []), ([5], [5]), ([4, 6], [4, 6]), ([7], [7]), ([8, 7], [8]), ([9], [9]), ([10, 9], [9, 10]), ([9], [9]), ([11, 12, 9], [9, 11, 12]), ([13, 9], [9, 13]), ([14, 9], [9, 14]), ([15, 9], [9, 15]), ([16, 9], [9, 16]), ([17, 9], [9, 17]), ([9, 18], [9, 18]), ([19, 9, 0, 1, 2, 3, 4, 5, 6, 7, 8, 9, 10, 11, 12, 13, 14, 15, 16, 17, 18, 19], [19])])
def impl_Block_canStep.B7 : List Nat := [0, 1, 0, 7, 15, 0, 32, 127, 255, 511, 1023, 2047, 1023, 8191, 16383, 32767, 65535, 131071, 262143, 524287, 1048575]
theorem impl_Block_canStep.tab7 : rtab .any (opsOf Tryz.f49 7) = impl_Block_canStep.T7 := by kernel_rfl
theorem impl_Block_canStep.bits7 : waitsOk impl_Block_canStep.T7.2 impl_Block_canStep.B7 = true := by kernel_rfl
set_option maxHeartbeats 8000000 in
set_option maxRecDepth 100000 in
theorem impl_Block_canStep.calls (k : Nat) (A0_0 : Option Addr) (c0_0 : Nat) (l0_0 : List (S95)) (A0_1 : Option Addr) (c0_1 : Nat) (l0_1 : List (S59)) (A0_2 : Option Addr) (c0_2 : Nat) (l0_2 : List Int) (a0_3 : Int) (a0_4 : Int) (a1 : Int) (r : Bool) (w : World) (hr0_0 : Kd.C k95 w A0_0 l0_0.length l0_0) (hc0_0 : l0_0.length ≤ c0_0) (hr0_1 : Kd.C k59 w A0_1 l0_1.length l0_1) (hc0_1 : l0_1.length ≤ c0_1) (hr0_2 : Kd.C (Kd.int .i64) w A0_2 l0_2.length l0_2) (hc0_2 : l0_2.length ≤ c0_2) (h : impl_Block_canStep.f k l0_0 l0_1 l0_2 a0_3 a0_4 a1 = some r) :
  Calls Tryz.prog 49 #[.agg #[.slice A0_0 l0_0.length c0_0, .slice A0_1 l0_1.length c0_1, .slice A0_2 l0_2.length c0_2, .int .i64 a0_3, .int .i64 a0_4], .int .i64 a1] w fun e w' => e = .returned (.bool r) ∧ Below w.heap.size w w' := by
 have hu33 := Tryz.underlying33; have hu95 := Tryz.underlying95; have hu59 := Tryz.underlying59; have HR0_0 := Aside0.mk hr0_0; have HC0_0 := Aside0.mk hc0_0; clear hr0_0 hc0_0; have HR0_1 := Aside0.mk hr0_1; have HC0_1 := Aside0.mk hc0_1; clear hr0_1 hc0_1; have HR0_2 := Aside0.mk hr0_2; have HC0_2 := Aside0.mk hc0_2; clear hr0_2 hc0_2; have HB := Aside0.mk (Below.refl w.heap.size w)
 have H : ((impl_Block_nextIns.f l0_0 l0_1 l0_2 a0_3 a0_4 a1).bind fun bt12 => (if bt12.2.2.2.2 = true then ((impl_Block_waits.f l0_0 l0_1 l0_2 a0_3 a0_4 a1).bind fun t18 => (impl_Block_canStep.j0 k a1 t18 l0_0 l0_1 l0_2 a0_3 a0_4 bt12.1 bt12.2.1 bt12.2.2.1 bt12.2.2.2.1)) else (impl_Block_canStep.j0 k a1 true l0_0 l0_1 l0_2 a0_3 a0_4 bt12.1 bt12.2.1 bt12.2.2.1 bt12.2.2.2.1))) = some r := h
 clear h; obtain ⟨⟨t12, t13, t14, t15, t16⟩, A3, H⟩ := bnd H; (try dsimp only at H); have HC4 := Aside0.mk H; clear H
 go_enter Tryz.func49, Tryz.ntmps49
 go_upto_region 2 with (first | ((with_reducible refine gate_dst (N := 2) rfl ?_); (try (refine gate_guard (by rfl) ?_; dsimp only)); refine box_event ?hg (N := 2) ?hd (cs := #[.slice A0_0 l0_0.length c0_0, .slice A0_1 l0_1.length c0_1, .slice A0_2 l0_2.length c0_2, .int .i64 a0_3, .int .i64 a0_4]) (t := 33) ?hr ?_; (case hd => rfl); (case hg => rfl); (case hr => exact gs); intro gb11 hg w5 hbox hb; have BK11 := Aside0.mk (hbox); have GW11 := Aside0.mk (gwe hg : w.heap.size ≤ _); have GE11 := GW11; replace HB := hbs hb; clear hb hbox hg; obtain ⟨_, _, _, _, _, _, _, _, _, _⟩ := box5 BK11) | (refine gL 85 (some 10) Tryz.func85 #[.agg #[.slice A0_0 l0_0.length c0_0, .slice A0_1 l0_1.length c0_1, .slice A0_2 l0_2.length c0_2, .int .i64 a0_3, .int .i64 a0_4], .int .i64 a1] ?_; refine (impl_Block_nextIns.calls _ _ l0_0 _ _ l0_1 _ _ l0_2 a0_3 a0_4 a1 t12 t13 t14 t15 t16 _ (cb HR0_0) HC0_0.out (cb HR0_1) HC0_1.out (cb HR0_2) HC0_2.out A3.out).mono ?_; rintro e w7 ⟨rfl, hb⟩; refine ⟨_, rfl, ?_⟩; replace BK11 := kb BK11 hb; replace HB := hbs hb; clear hb) | ((with_reducible refine gate_dst (N := 5) rfl ?_); (try (refine gate_guard (by rfl) ?_; dsimp only)); refine box_event ?hg (N := 5) ?hd (cs := #[.int .i64 0, .int .i64 0, .int .i64 0, .int .i64 0]) (t := 95) ?hr ?_; (case hd => rfl); (case hg => rfl); (case hr => exact gs); intro gb17 hg w8 hbox hb; have BK17 := Aside0.mk (hbox); have GW17 := Aside0.mk (gwe hg : w.heap.size ≤ _); have GE17 := GW17; have NB11_17 := Aside0.mk (nbl hg BK11); have NB17_11 := Aside0.mk (nbg hg BK11); replace BK11 := kb BK11 hb; replace HB := hbs hb; clear hb hbox hg; have hnb9 := NB17_11.out; have hnc9 := NB11_17.out; obtain ⟨_, _, _, _, _, _, _, _⟩ := box4 BK17))
 (try simp only [Act.put, List.setIfInBounds_toArray, List.set_cons_zero, List.set_cons_succ])
 go_cut [13] (fun v13 wc => ∃ (kq : Nat) (x13_3 : Bool), v13 = .bool x13_3 ∧ Aside0 (impl_Block_canStep.j0 kq a1 x13_3 l0_0 l0_1 l0_2 a0_3 a0_4 t12 t13 t14 t15 = some r) ∧ Aside0 (kq ≤ k) ∧ Aside0 (wc.heap[gb11]? = some (.cells #[(.slice A0_0 l0_0.length c0_0), (.slice A0_1 l0_1.length c0_1), (.slice A0_2 l0_2.length c0_2), .int .i64 a0_3, .int .i64 a0_4] 33 (0, 0))) ∧ Aside0 (wc.heap[gb17]? = some (.cells #[.int .i64 t12, .int .i64 t13, .int .i64 t14, .int .i64 t15] 95 (0, 0))) ∧ Aside0 (Below w.heap.size w wc))
 case first =>
  have H := HC4.out; clear HC4
  by_cases c11 : t16 = true
  ·subst c11; rw [if_pos rfl] at H; obtain ⟨t18, A12, H⟩ := bnd H; (try dsimp only at H)
   have H' := Aside0.mk H
   clear H; have hnb13 := NB11_17.out; have hnc13 := NB17_11.out; obtain ⟨_, _, _, _, _, _, _, _, _, _⟩ := box5 BK11
   go_wp2_with (first | (go_at_call 86; refine (impl_Block_waits.calls _ _ l0_0 _ _ l0_1 _ _ l0_2 a0_3 a0_4 a1 t18 _ (Kd.C_below HR0_0.out bels) HC0_0.out (Kd.C_below HR0_1.out bels) HC0_1.out (Kd.C_below HR0_2.out bels) HC0_2.out A12.out).mono ?_; rintro e w15 ⟨rfl, hb⟩; replace BK11 := kbb BK11 hb; replace BK17 := Aside0.mk (blk_below (g := gb17) (o := .cells #[.int .i64 t12, .int .i64 t13, .int .i64 t14, .int .i64 t15] 95 (0, 0)) (bkp) hb); replace HB := hbs hb; clear hb))
   go_meet
   case rel => exact ⟨_, (t18), rfx, H', ⟨omx⟩, ⟨bk⟩, ⟨bk⟩, ⟨bels⟩⟩
  ·replace c11 := Bool.eq_false_iff.mpr c11; subst c11; rw [if_neg (by decide)] at H
   have H' := Aside0.mk H
   clear H
   go_wp2
   go_meet
   case rel => exact ⟨_, (true), rfx, H', ⟨omx⟩, ⟨bk⟩, ⟨bkp⟩, ⟨bels⟩⟩
 case rest =>
  clear HC4
  try clear c1
  try clear p2
  try clear c4
  try clear c8
  try clear c9
  try clear c11
  try clear c13
  obtain ⟨kq, x13_3, rfl, HA, HJ3, BK11, BK17, HB⟩ := hcut
  cases kq with
  | zero => exact absurd HA.out (by simp [impl_Block_canStep.j0])
  | succ kj3 =>
   have H := HA.out; clear HA
   simp only [impl_Block_canStep.j0] at H
   by_cases c16 : x13_3 = true
   ·subst c16; rw [if_pos rfl] at H; obtain rfl := oI H
    go_wp2
    go_ret
    exact ⟨rfe, bels⟩
   ·replace c16 := Bool.eq_false_iff.mpr c16; subst c16; rw [if_neg (by decide)] at H
    by_cases c17 : t12 = 16
    ·rw [if_pos c17] at H
     have c17b0 : (t12 == 16) = true := beq_iff_eq.mpr c17
     have c17b1 : (t12 != 16) = false := bne_eq_false_iff_eq.mpr c17
     clear c17
     obtain ⟨c18, H⟩ := ifS H
     have c18b0 := decide_eq_true c18
     clear c18
     obtain ⟨c19, H⟩ := ifS H
     have c19b0 := decide_eq_true c19
     clear c19; obtain rfl := oI H; have hnb20 := NB17_11.out; have hnc20 := NB11_17.out; obtain ⟨_, _, _, _, _, _, _, _⟩ := box4 BK17; obtain ⟨_, _, _, _, _, _, _, _, _, _⟩ := box5 BK11
     have p19 : 0 ≤ (a1 : Int) := pq0
     have q19 : a1 < (l0_1.length : Int) := pq0
     obtain ⟨ad19, A19_1, c19_1, A19_2, c19_2, e19, hx19_0, hx19_1, hx19_2, hl19_1, hi19_1, hl19_2, hi19_2⟩ := at_T59 HR0_1.out a1 p19 q19
     cases e19
     replace hx19_0 := hxb hx19_0; replace hx19_1 := hxb hx19_1; replace hx19_2 := hxb hx19_2; have HR19_1 := Aside0.mk hi19_1; have HC19_1 := Aside0.mk hl19_1; clear hi19_1 hl19_1; have HR19_2 := Aside0.mk hi19_2; have HC19_2 := Aside0.mk hl19_2; clear hi19_2 hl19_2; replace p19 := eq_true p19; replace q19 := eq_true q19
     go_wp2
     go_ret
     exact ⟨rfe, bels⟩
    ·rw [if_neg c17] at H
     have c17b0 : (t12 == 16) = false := beq_eq_false_iff_ne.mpr c17
     have c17b1 : (t12 != 16) = true := bne_iff_ne.mpr c17
     obtain ⟨t20, A23, H⟩ := bnd H; (try dsimp only at H)
     by_cases c24 : t20 = true
     ·subst c24; rw [if_pos rfl] at H
      obtain ⟨c25, H⟩ := ifS H
      have c25b0 := decide_eq_true c25
      clear c25
      obtain ⟨c26, H⟩ := ifS H
      have c26b0 := decide_eq_true c26
      clear c26; obtain ⟨t22, A27, H⟩ := bnd H; (try dsimp only at H)
      by_cases c28 : t22 = true
      ·subst c28; rw [if_pos rfl] at H; obtain rfl := oI H; have hnb29 := NB17_11.out; have hnc29 := NB11_17.out; obtain ⟨_, _, _, _, _, _, _, _⟩ := box4 BK17
       try go_wp2_with (first | (refine gL 87 (some 35) Tryz.func87 #[.agg #[.int .i64 t12, .int .i64 t13, .int .i64 t14, .int .i64 t15]] ?_; (with_reducible refine (impl_IsLocal.calls t12 t13 t14 t15 true _ A23.out).mono ?_); rintro e w31 ⟨rfl, hb⟩; refine ⟨_, rfl, ?_⟩; replace BK11 := kb BK11 hb; replace BK17 := kb BK17 hb; replace HB := hbs hb; clear hb))
       replace BK11 := Aside0.mk (blk_drew BK11.out); replace BK17 := Aside0.mk (blk_drew BK17.out); replace HB := Aside0.mk (below_drew1 HB.out)
       have p21 : 0 ≤ (a1 : Int) := pq0
       have q21 : a1 < (l0_1.length : Int) := pq0
       obtain ⟨ad21, A21_1, c21_1, A21_2, c21_2, e21, hx21_0, hx21_1, hx21_2, hl21_1, hi21_1, hl21_2, hi21_2⟩ := at_T59 HR0_1.out a1 p21 q21; have hw21_2 := hx21_2; have hw21_1 := hx21_1; have hw21_0 := hx21_0
       cases e21
       replace hx21_0 := hxb hx21_0; replace hx21_1 := hxb hx21_1; replace hx21_2 := hxb hx21_2; have HR21_1 := Aside0.mk hi21_1; have HC21_1 := Aside0.mk hl21_1; clear hi21_1 hl21_1; have HR21_2 := Aside0.mk hi21_2; have HC21_2 := Aside0.mk hl21_2; clear hi21_2 hl21_2; replace p21 := eq_true p21; replace q21 := eq_true q21
       have p23 : 0 ≤ (a1 : Int) := pq0
       have q23 : a1 < (l0_1.length : Int) := pq0
       obtain ⟨ad23, A23_1, c23_1, A23_2, c23_2, e23, hx23_0, hx23_1, hx23_2, hl23_1, hi23_1, hl23_2, hi23_2⟩ := at_T59 HR0_1.out a1 p23 q23; have hw23_2 := hx23_2; have hw23_1 := hx23_1; have hw23_0 := hx23_0
       obtain rfl : ad21 = ad23 := (by injection e23)
       replace hx23_0 := hxb hx23_0; replace hx23_1 := hxb hx23_1; replace hx23_2 := hxb hx23_2; have HR23_1 := Aside0.mk hi23_1; have HC23_1 := Aside0.mk hl23_1; clear hi23_1 hl23_1; have HR23_2 := Aside0.mk hi23_2; have HC23_2 := Aside0.mk hl23_2; clear hi23_2 hl23_2; replace p23 := eq_true p23; replace q23 := eq_true q23
       refine start_ (n := 21) (S := fun w' => w'.cell? ⟨gb11, 0, none⟩ = some (.slice A0_0 l0_0.length c0_0) ∧ w'.cell? ⟨gb11, 1, none⟩ = some (.slice (some ad21) l0_1.length c0_1) ∧ w'.cell? ⟨gb11, 2, none⟩ = some (.slice A0_2 l0_2.length c0_2) ∧ w'.cell? ⟨gb11, 3, none⟩ = some (.int .i64 a0_3) ∧ w'.cell? ⟨gb11, 4, none⟩ = some (.int .i64 a0_4) ∧ w'.cell? (ad21.add ((a1).toNat * 3)) = some (.int .i64 ((rd_T59 l0_1 a1).f0)) ∧ w'.cell? ⟨(ad21.add ((a1).toNat * 3)).block, (ad21.add ((a1).toNat * 3)).off + 1, none⟩ = some (.slice A21_1 ((rd_T59 l0_1 a1).f1).length c21_1) ∧ w'.cell? ⟨(ad21.add ((a1).toNat * 3)).block, (ad21.add ((a1).toNat * 3)).off + 2, none⟩ = some (.slice A21_2 ((rd_T59 l0_1 a1).f2).length c21_2) ∧ w'.cell? (ad21.add ((a1).toNat * 3)) = some (.int .i64 ((rd_T59 l0_1 a1).f0)) ∧ w'.cell? ⟨(ad21.add ((a1).toNat * 3)).block, (ad21.add ((a1).toNat * 3)).off + 1, none⟩ = some (.slice A23_1 ((rd_T59 l0_1 a1).f1).length c23_1) ∧ w'.cell? ⟨(ad21.add ((a1).toNat * 3)).block, (ad21.add ((a1).toNat * 3)).off + 2, none⟩ = some (.slice A23_2 ((rd_T59 l0_1 a1).f2).length c23_2)) (ds := []) _ (by kernel_rfl) rfl rfl ⟨bz BK11 0, bz BK11 1, bz BK11 2, bz BK11 3, bz BK11 4, (hxb hw21_0), (hxb hw21_1), (hxb hw21_2), (hxb hw23_0), (hxb hw23_1), (hxb hw23_2)⟩ (fun hHeld => ?_); refine with_tabW impl_Block_canStep.tab7 impl_Block_canStep.bits7 (fun HT_ HW_ => ?_)
       generalize w31.drew = w32 at BK11 BK17 HB HR21_1 HR21_2 HR23_1 HR23_2 hx21_0 hx21_1 hx21_2 hx23_0 hx23_1 hx23_2 hHeld ⊢; refine pm 0 36 ?_; refine pm 2 38 ?_; refine pm 5 41 ?_; refine tm11 1 37 ?_; refine pm 3 39 ?_; refine tm11 4 40 ?_; refine tm11 6 42 ?_; refine om 7 43 (fun K hK => ?_); refine goes_ Tryz.func88 (by kernel_rfl) rfl #[.agg #[.int .i64 ((rd_T59 l0_1 a1).f0), .slice A21_1 ((rd_T59 l0_1 a1).f1).length c21_1, .slice A21_2 ((rd_T59 l0_1 a1).f2).length c21_2], .slice A0_0 l0_0.length c0_0] (by rfl) rfl rfl slq ?_; refine (impl_Warp_splits.calls kj3 ((rd_T59 l0_1 a1).f0) _ _ ((rd_T59 l0_1 a1).f1) _ _ ((rd_T59 l0_1 a1).f2) _ _ l0_0 true _ (cb HR21_1) HC21_1.out (cb HR21_2) HC21_2.out (cb HR0_0) HC0_0.out A27.out).mono ?_; rintro e w33 ⟨rfl, hb⟩; refine ⟨_, rfl, ?_⟩; replace BK11 := kb BK11 hb; replace BK17 := kb BK17 hb; replace HB := hbs hb; clear hb; refine hK.out _ _ hd (fun hHeld => ?_); clear hK K; refine nm 43 ?_; refine pm 8 44 ?_; refine pm 9 45 ?_; refine pm 10 46 ?_; refine pm 12 48 ?_; refine tm11 11 47 ?_; refine wp 13 15 ?_; refine tm11 15 51 ?_; refine wp 16 21 ?_
       refine done_ (done_of HT_.out (by kernel_rfl)) ?_
       try go_wp2
       go_ret
       exact ⟨rfe, bels⟩
      ·replace c28 := Bool.eq_false_iff.mpr c28; subst c28; rw [if_neg (by decide)] at H; obtain rfl := oI H; have hnb34 := NB17_11.out; have hnc34 := NB11_17.out; obtain ⟨_, _, _, _, _, _, _, _⟩ := box4 BK17
       try go_wp2_with (first | (refine gL 87 (some 35) Tryz.func87 #[.agg #[.int .i64 t12, .int .i64 t13, .int .i64 t14, .int .i64 t15]] ?_; (with_reducible refine (impl_IsLocal.calls t12 t13 t14 t15 true _ A23.out).mono ?_); rintro e w36 ⟨rfl, hb⟩; refine ⟨_, rfl, ?_⟩; replace BK11 := kb BK11 hb; replace BK17 := kb BK17 hb; replace HB := hbs hb; clear hb))
       replace BK11 := Aside0.mk (blk_drew BK11.out); replace BK17 := Aside0.mk (blk_drew BK17.out); replace HB := Aside0.mk (below_drew1 HB.out)
       have p21 : 0 ≤ (a1 : Int) := pq0
       have q21 : a1 < (l0_1.length : Int) := pq0
       obtain ⟨ad21, A21_1, c21_1, A21_2, c21_2, e21, hx21_0, hx21_1, hx21_2, hl21_1, hi21_1, hl21_2, hi21_2⟩ := at_T59 HR0_1.out a1 p21 q21; have hw21_2 := hx21_2; have hw21_1 := hx21_1; have hw21_0 := hx21_0
       cases e21
       replace hx21_0 := hxb hx21_0; replace hx21_1 := hxb hx21_1; replace hx21_2 := hxb hx21_2; have HR21_1 := Aside0.mk hi21_1; have HC21_1 := Aside0.mk hl21_1; clear hi21_1 hl21_1; have HR21_2 := Aside0.mk hi21_2; have HC21_2 := Aside0.mk hl21_2; clear hi21_2 hl21_2; replace p21 := eq_true p21; replace q21 := eq_true q21
       refine start_ (n := 21) (S := fun w' => w'.cell? ⟨gb11, 0, none⟩ = some (.slice A0_0 l0_0.length c0_0) ∧ w'.cell? ⟨gb11, 1, none⟩ = some (.slice (some ad21) l0_1.length c0_1) ∧ w'.cell? ⟨gb11, 2, none⟩ = some (.slice A0_2 l0_2.length c0_2) ∧ w'.cell? ⟨gb11, 3, none⟩ = some (.int .i64 a0_3) ∧ w'.cell? ⟨gb11, 4, none⟩ = some (.int .i64 a0_4) ∧ w'.cell? (ad21.add ((a1).toNat * 3)) = some (.int .i64 ((rd_T59 l0_1 a1).f0)) ∧ w'.cell? ⟨(ad21.add ((a1).toNat * 3)).block, (ad21.add ((a1).toNat * 3)).off + 1, none⟩ = some (.slice A21_1 ((rd_T59 l0_1 a1).f1).length c21_1) ∧ w'.cell? ⟨(ad21.add ((a1).toNat * 3)).block, (ad21.add ((a1).toNat * 3)).off + 2, none⟩ = some (.slice A21_2 ((rd_T59 l0_1 a1).f2).length c21_2)) (ds := []) _ (by kernel_rfl) rfl rfl ⟨bz BK11 0, bz BK11 1, bz BK11 2, bz BK11 3, bz BK11 4, (hxb hw21_0), (hxb hw21_1), (hxb hw21_2)⟩ (fun hHeld => ?_); refine with_tabW impl_Block_canStep.tab7 impl_Block_canStep.bits7 (fun HT_ HW_ => ?_)
       generalize w36.drew = w37 at BK11 BK17 HB HR21_1 HR21_2 hx21_0 hx21_1 hx21_2 hHeld ⊢; refine pm 0 36 ?_; refine pm 2 38 ?_; refine pm 5 41 ?_; refine tm8 1 37 ?_; refine pm 3 39 ?_; refine tm8 4 40 ?_; refine tm8 6 42 ?_; refine om 7 43 (fun K hK => ?_); refine goes_ Tryz.func88 (by kernel_rfl) rfl #[.agg #[.int .i64 ((rd_T59 l0_1 a1).f0), .slice A21_1 ((rd_T59 l0_1 a1).f1).length c21_1, .slice A21_2 ((rd_T59 l0_1 a1).f2).length c21_2], .slice A0_0 l0_0.length c0_0] (by rfl) rfl rfl slq ?_; refine (impl_Warp_splits.calls kj3 ((rd_T59 l0_1 a1).f0) _ _ ((rd_T59 l0_1 a1).f1) _ _ ((rd_T59 l0_1 a1).f2) _ _ l0_0 false _ (cb HR21_1) HC21_1.out (cb HR21_2) HC21_2.out (cb HR0_0) HC0_0.out A27.out).mono ?_; rintro e w38 ⟨rfl, hb⟩; refine ⟨_, rfl, ?_⟩; replace BK11 := kb BK11 hb; replace BK17 := kb BK17 hb; replace HB := hbs hb; clear hb; refine hK.out _ _ hd (fun hHeld => ?_); clear hK K; refine nm 43 ?_; refine wp 8 10 ?_
       refine wu 10 19 ?_
       refine wp 19 21 ?_
       refine done_ (done_of HT_.out (by kernel_rfl)) ?_
       try go_wp2
       go_ret
       exact ⟨rfe, bels⟩
     ·replace c24 := Bool.eq_false_iff.mpr c24; subst c24; rw [if_neg (by decide)] at H; obtain rfl := oI H; have hnb39 := NB17_11.out; have hnc39 := NB11_17.out; obtain ⟨_, _, _, _, _, _, _, _⟩ := box4 BK17
      go_wp2_with (first | (refine gL 87 (some 35) Tryz.func87 #[.agg #[.int .i64 t12, .int .i64 t13, .int .i64 t14, .int .i64 t15]] ?_; (with_reducible refine (impl_IsLocal.calls t12 t13 t14 t15 false _ A23.out).mono ?_); rintro e w41 ⟨rfl, hb⟩; refine ⟨_, rfl, ?_⟩; replace BK11 := kb BK11 hb; replace BK17 := kb BK17 hb; replace HB := hbs hb; clear hb))
      go_ret
      exact ⟨rfe, bels⟩

end Go.Proofs.YtmnkbchieplicaaGreatDoor.Q
