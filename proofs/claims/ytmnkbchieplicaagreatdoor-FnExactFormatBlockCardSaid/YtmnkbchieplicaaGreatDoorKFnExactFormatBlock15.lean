/- Contracts of functions of the program and of the laws, written by program out of the translation; conditions: as each theorem says. -/
import Derived.Test.YtmnkbchieplicaaGreatDoorKFnExactFormatBlock14
namespace Go.Proofs.YtmnkbchieplicaaGreatDoor.Q
open Go.RowKit Go.Proofs.YtmnkbchieplicaaGreatDoorW.PrintWords Go.Proofs.YtmnkbchieplicaaGreatDoorW.PrintLast Go.Proofs.YtmnkbchieplicaaGreatDoorW.PrintMore
attribute [local go_sem] max2_int min2_int max_two min_two max_three min_three max_four min_four   -- for this text's walks alone
set_option linter.unusedVariables false
set_option linter.unusedSimpArgs false

/-! ### impl_BlockOk: function 35 -/
mutual
def impl_BlockOk.j0 : Nat → Bool → List (S95) → List (S59) → List Int → Int → Int → Option (Bool)
 | 0, _, _, _, _, _, _ => none
 | k + 1, x38, x12000, x12001, x12002, x12003, x12004 => if x38 = true then (some false) else (impl_BlockOk.l0 k x12001 (x12001.length : Int) 0 x12000 x12001 x12002 x12003 x12004)
def impl_BlockOk.l0 : Nat → List (S59) → Int → Int → List (S95) → List (S59) → List Int → Int → Int → Option (Bool)
 | 0, _, _, _, _, _, _, _, _ => none
 | k + 1, x40, x41, x42, x12000, x12001, x12002, x12003, x12004 => if x42 < x41 then (if 0 ≤ x42 then (if x42 < (x40.length : Int) then (if ((rd_T59 x40 x42).f0) = x42 then ((impl_isWarpOf.f k x12000 ((rd_T59 x40 x42).f0) ((rd_T59 x40 x42).f1) ((rd_T59 x40 x42).f2)).bind fun t19 => (if t19 = true then (impl_BlockOk.l0 k x40 x41 (wrap64 (x42 + 1)) x12000 x12001 x12002 x12003 x12004) else (some false))) else (some false)) else (none)) else (none)) else (some true)
end
def impl_BlockOk.f (k : Nat) (l0_0 : List (S95)) (l0_1 : List (S59)) (l0_2 : List Int) (a0_3 : Int) (a0_4 : Int) : Option (Bool) := (impl_ProgramOk.f k l0_0).bind fun t12 => (if t12 = true then ((impl_isWarpCount.f (l0_1.length : Int)).bind fun t13 => (if t13 = true then ((impl_isMemory.f l0_2).bind fun t14 => (if t14 = true then ((impl_within.f a0_3 0 (wrap64 ((shl .i64 1 (l0_1.length : Int)) - 2))).bind fun t15 => (if t15 = true then ((impl_within.f a0_4 0 100000).bind fun t16 => (impl_BlockOk.j0 k (!t16) l0_0 l0_1 l0_2 a0_3 a0_4)) else (impl_BlockOk.j0 k true l0_0 l0_1 l0_2 a0_3 a0_4))) else (impl_BlockOk.j0 k true l0_0 l0_1 l0_2 a0_3 a0_4))) else (impl_BlockOk.j0 k true l0_0 l0_1 l0_2 a0_3 a0_4))) else (impl_BlockOk.j0 k true l0_0 l0_1 l0_2 a0_3 a0_4))
def impl_BlockOk.T1 : Bool × List (List Nat × List Nat) := (true, [([], []), ([0], [0]), ([1], [1]), ([2], [2]), ([3, 2], [3]), ([4], [4]), ([5, 4], [4, 5]), ([6, 4], [4, 6]), ([7, 4, 4], [4, 7]), ([8, 4], [4, 8]), ([4, 9], [4, 9]), ([10, 8], [10]), ([11], [11]), ([12, 11], [11, 12]), ([13, 11, 11], [11, 13]), ([14, 11], [11, 14]), ([11, 15], [11, 15]), ([16, 14], [16]), ([17], [17]), ([18, 17], [17, 18]), ([17], [17]), ([20, 17], [17, 20]), ([21, 17], [17, 21]), ([22, 17], [17, 22]), ([23, 17], [17, 23]), ([19, 24, 17, 17], [17, 19, 24]), ([25, 17], [17, 25]), ([17, 26], [17, 26]), ([27, 25], [27]), ([28], [28]), ([29, 28], [28, 29]), ([30, 28, 28], [28, 30]), ([31, 28], [28, 31]), ([28, 32], [28, 32])])
def impl_BlockOk.B1 : List Nat := [0, 1, 3, 7, 15, 31, 63, 127, 255, 511, 1023, 2047, 4095, 8191, 16383, 32767, 65535, 131071, 262143, 524287, 262143, 1310719, 3407871, 7602175, 15990783, 33554431, 67108863, 134217727, 268435455, 536870911, 1073741823, 2147483647, 4294967295, 8589934591]
theorem impl_BlockOk.tab1 : rtab .any (opsOf Tryz.f35 1) = impl_BlockOk.T1 := by kernel_rfl
theorem impl_BlockOk.bits1 : waitsOk impl_BlockOk.T1.2 impl_BlockOk.B1 = true := by kernel_rfl
set_option maxHeartbeats 8000000 in
set_option maxRecDepth 100000 in
theorem impl_BlockOk.calls (k : Nat) (A0_0 : Option Addr) (c0_0 : Nat) (l0_0 : List (S95)) (A0_1 : Option Addr) (c0_1 : Nat) (l0_1 : List (S59)) (A0_2 : Option Addr) (c0_2 : Nat) (l0_2 : List Int) (a0_3 : Int) (a0_4 : Int) (r : Bool) (w : World) (hr0_0 : Kd.C k95 w A0_0 l0_0.length l0_0) (hc0_0 : l0_0.length ≤ c0_0) (hr0_1 : Kd.C k59 w A0_1 l0_1.length l0_1) (hc0_1 : l0_1.length ≤ c0_1) (hr0_2 : Kd.C (Kd.int .i64) w A0_2 l0_2.length l0_2) (hc0_2 : l0_2.length ≤ c0_2) (h : impl_BlockOk.f k l0_0 l0_1 l0_2 a0_3 a0_4 = some r) :
  Calls Tryz.prog 35 #[.agg #[.slice A0_0 l0_0.length c0_0, .slice A0_1 l0_1.length c0_1, .slice A0_2 l0_2.length c0_2, .int .i64 a0_3, .int .i64 a0_4]] w fun e w' => e = .returned (.bool r) ∧ Below w.heap.size w w' := by
 have hu33 := Tryz.underlying33; have hu59 := Tryz.underlying59; have HR0_0 := Aside0.mk hr0_0; have HC0_0 := Aside0.mk hc0_0; clear hr0_0 hc0_0; have HR0_1 := Aside0.mk hr0_1; have HC0_1 := Aside0.mk hc0_1; clear hr0_1 hc0_1; have HR0_2 := Aside0.mk hr0_2; have HC0_2 := Aside0.mk hc0_2; clear hr0_2 hc0_2; have HB := Aside0.mk (Below.refl w.heap.size w)
 have H : ((impl_ProgramOk.f k l0_0).bind fun t12 => (if t12 = true then ((impl_isWarpCount.f (l0_1.length : Int)).bind fun t13 => (if t13 = true then ((impl_isMemory.f l0_2).bind fun t14 => (if t14 = true then ((impl_within.f a0_3 0 (wrap64 ((shl .i64 1 (l0_1.length : Int)) - 2))).bind fun t15 => (if t15 = true then ((impl_within.f a0_4 0 100000).bind fun t16 => (impl_BlockOk.j0 k (!t16) l0_0 l0_1 l0_2 a0_3 a0_4)) else (impl_BlockOk.j0 k true l0_0 l0_1 l0_2 a0_3 a0_4))) else (impl_BlockOk.j0 k true l0_0 l0_1 l0_2 a0_3 a0_4))) else (impl_BlockOk.j0 k true l0_0 l0_1 l0_2 a0_3 a0_4))) else (impl_BlockOk.j0 k true l0_0 l0_1 l0_2 a0_3 a0_4))) = some r := h
 clear h; have HC2 := Aside0.mk H; clear H
 go_enter Tryz.func35, Tryz.ntmps35
 go_upto_region 1 with (first | ((with_reducible refine gate_dst (N := 1) rfl ?_); (try (refine gate_guard (by rfl) ?_; dsimp only)); refine box_event ?hg (N := 1) ?hd (cs := #[.slice A0_0 l0_0.length c0_0, .slice A0_1 l0_1.length c0_1, .slice A0_2 l0_2.length c0_2, .int .i64 a0_3, .int .i64 a0_4]) (t := 33) ?hr ?_; (case hd => rfl); (case hg => rfl); (case hr => exact gs); intro gb11 hg w3 hbox hb; have BK11 := Aside0.mk (hbox); have GW11 := Aside0.mk (gwe hg : w.heap.size ≤ _); have GE11 := GW11; replace HB := hbs hb; clear hb hbox hg))
 (try simp only [Act.put, List.setIfInBounds_toArray, List.set_cons_zero, List.set_cons_succ])
 go_cut [38] (fun v38 wc => ∃ (kq : Nat) (x38_1 : Bool), v38 = .bool x38_1 ∧ Aside0 (impl_BlockOk.j0 kq x38_1 l0_0 l0_1 l0_2 a0_3 a0_4 = some r) ∧ Aside0 (kq ≤ k) ∧ Aside0 (wc.heap[gb11]? = some (.cells #[(.slice A0_0 l0_0.length c0_0), (.slice A0_1 l0_1.length c0_1), (.slice A0_2 l0_2.length c0_2), .int .i64 a0_3, .int .i64 a0_4] 33 (0, 0))) ∧ Aside0 (Below w.heap.size w wc))
 case first =>
  have H := HC2.out; clear HC2; obtain ⟨t12, A4, H⟩ := bnd H; (try dsimp only at H)
  by_cases c5 : t12 = true
  ·subst c5; rw [if_pos rfl] at H; obtain ⟨t13, A6, H⟩ := bnd H; (try dsimp only at H)
   by_cases c7 : t13 = true
   ·subst c7; rw [if_pos rfl] at H; obtain ⟨t14, A8, H⟩ := bnd H; (try dsimp only at H)
    by_cases c9 : t14 = true
    ·subst c9; rw [if_pos rfl] at H
     obtain ⟨ji10, hji10⟩ : ∃ j_ : Int, (shl .i64 1 (l0_1.length : Int)) = j_ := ⟨_, rfl⟩
     (first | rw [hji10] at H | simp only [hji10] at H)
     (try rw [hji10] at A4)
     (try rw [hji10] at A6)
     (try rw [hji10] at A8)
     have hji10_ : (IntKind.i64.wrap (1 * 2 ^ min (l0_1.length : Int).toNat 64)) = ji10 := hji10
     have hji10z : (l0_1.length : Int) ≤ 64 → (IntKind.i64.wrap (1 * 2 ^ (l0_1.length : Int).toNat)) = ji10 := shl_small hji10
     have hji10p : (IntKind.i64.wrap (1 * 2 ^ min l0_1.length 64)) = ji10 := hji10_
     have hji10q : (l0_1.length : Int) ≤ 64 → (IntKind.i64.wrap (1 * 2 ^ l0_1.length)) = ji10 := hji10z
     have hji10r : (IntKind.i64.wrap (2 ^ min l0_1.length 64)) = ji10 := by have h_ := hji10p; rw [Int.one_mul] at h_; exact h_
     have hji10s : (l0_1.length : Int) ≤ 64 → (IntKind.i64.wrap (2 ^ l0_1.length)) = ji10 := fun hle_ => by have h_ := hji10q hle_; rw [Int.one_mul] at h_; exact h_
     have hji10u : (IntKind.i64.wrap (2 ^ min (l0_1.length : Int).toNat 64)) = ji10 := by have h_ := hji10_; rw [Int.one_mul] at h_; exact h_
     have hji10v : (l0_1.length : Int) ≤ 64 → (IntKind.i64.wrap (2 ^ (l0_1.length : Int).toNat)) = ji10 := fun hle_ => by have h_ := hji10z hle_; rw [Int.one_mul] at h_; exact h_
     have hji10y : (wrap64 (1 * 2 ^ min (l0_1.length : Int).toNat 64)) = ji10 := (i64_w _).symm.trans hji10_
     have hji10x : (l0_1.length : Int) ≤ 64 → (wrap64 (1 * 2 ^ (l0_1.length : Int).toNat)) = ji10 := fun h_ => (i64_w _).symm.trans (hji10z h_)
     obtain ⟨t15, A11, H⟩ := bnd H; (try dsimp only at H)
     by_cases c12 : t15 = true
     ·subst c12; rw [if_pos rfl] at H; obtain ⟨t16, A13, H⟩ := bnd H; (try dsimp only at H)
      have H' := Aside0.mk H
      clear H
      try go_wp2
      replace BK11 := Aside0.mk (blk_drew BK11.out); replace HB := Aside0.mk (below_drew1 HB.out)
      refine start_ (n := 34) (S := fun w' => w'.cell? ⟨gb11, 0, none⟩ = some (.slice A0_0 l0_0.length c0_0) ∧ w'.cell? ⟨gb11, 1, none⟩ = some (.slice A0_1 l0_1.length c0_1) ∧ w'.cell? ⟨gb11, 2, none⟩ = some (.slice A0_2 l0_2.length c0_2) ∧ w'.cell? ⟨gb11, 3, none⟩ = some (.int .i64 a0_3) ∧ w'.cell? ⟨gb11, 4, none⟩ = some (.int .i64 a0_4)) (ds := []) _ (by kernel_rfl) rfl rfl ⟨bz BK11 0, bz BK11 1, bz BK11 2, bz BK11 3, bz BK11 4⟩ (fun hHeld => ?_); refine with_tabW impl_BlockOk.tab1 impl_BlockOk.bits1 (fun HT_ HW_ => ?_)
      generalize w3.drew = w14 at BK11 HB hHeld ⊢; refine pm 0 5 ?_; refine tm5 1 6 ?_; refine om 2 7 (fun K hK => ?_); refine goes_ Tryz.func67 (by kernel_rfl) rfl #[.slice A0_0 l0_0.length c0_0] (by rfl) rfl rfl slq ?_; refine (impl_ProgramOk.calls k _ _ l0_0 true _ (cb HR0_0) HC0_0.out A4.out).mono ?_; rintro e w15 ⟨rfl, hb⟩; refine ⟨_, rfl, ?_⟩; replace BK11 := kb BK11 hb; replace HB := hbs hb; clear hb; refine hK.out _ _ hd (fun hHeld => ?_); clear hK K; refine nm 7 ?_; refine wp 3 6 ?_; refine tm5 6 11 ?_; refine pm 7 12 ?_; refine om 8 13 (fun K hK => ?_); refine goes_ Tryz.func68 (by kernel_rfl) rfl #[.int .i64 (l0_1.length : Int)] (by rfl) rfl rfl slq ?_; (with_reducible refine (impl_isWarpCount.calls (l0_1.length : Int) true _ A6.out).mono ?_); rintro e w' ⟨rfl, ⟨nd, rfl⟩⟩; refine ⟨_, rfl, ?_⟩; refine hK.out _ _ hd (fun hHeld => ?_); clear hK K; refine nm 13 ?_; refine wp 9 13 ?_; refine tm5 13 18 ?_; refine om 14 19 (fun K hK => ?_); refine goes_ Tryz.func69 (by kernel_rfl) rfl #[.slice A0_2 l0_2.length c0_2] (by rfl) rfl rfl slq ?_; refine (impl_isMemory.calls _ _ l0_2 true _ (cb HR0_2) HC0_2.out A8.out).mono ?_; rintro e w' ⟨rfl, ⟨nd, rfl⟩⟩; refine ⟨_, rfl, ?_⟩; refine hK.out _ _ hd (fun hHeld => ?_); clear hK K; refine nm 19 ?_; refine pm 15 20 ?_; refine pm 16 21 ?_; refine pm 17 22 ?_; refine pm 18 23 ?_; refine pm 20 25 ?_; refine tm5 19 24 ?_; refine tm5 21 26 ?_; refine wp 22 25 ?_; refine om 25 30 (fun K hK => ?_); refine goes_ Tryz.func70 (by kernel_rfl) rfl #[.int .i64 a0_3, .int .i64 0, .int .i64 (wrap64 ((ji10) - 2))] (by rfl) rfl rfl (by (try simp only [List.map_toArray, List.map_cons, List.map_nil]); first | done | (simp only [hji10]; rfl) | rfl | (simp only [List.length_drop, List.length_take]; rfl)) ?_; (with_reducible refine (impl_within.calls a0_3 0 (wrap64 ((ji10) - 2)) true _ A11.out).mono ?_); rintro e w' ⟨rfl, ⟨nd, rfl⟩⟩; refine ⟨_, rfl, ?_⟩; refine hK.out _ _ hd (fun hHeld => ?_); clear hK K; refine nm 30 ?_; refine wp 26 30 ?_; refine tm5 30 35 ?_; refine om 31 36 (fun K hK => ?_); refine goes_ Tryz.func70 (by kernel_rfl) rfl #[.int .i64 a0_4, .int .i64 0, .int .i64 100000] (by rfl) rfl rfl slq ?_; (with_reducible refine (impl_within.calls a0_4 0 100000 t16 _ A13.out).mono ?_); rintro e w' ⟨rfl, ⟨nd, rfl⟩⟩; refine ⟨_, rfl, ?_⟩
      refine hK.out _ _ hd (fun hHeld => ?_); clear hK K; refine nm 36 ?_; refine wp 32 34 ?_
      refine done_ (done_of HT_.out (by kernel_rfl)) ?_
      try go_wp2
      go_meet
      case rel => exact ⟨_, (!t16), rfx, H', ⟨omx⟩, ⟨bk⟩, ⟨bels⟩⟩
     ·replace c12 := Bool.eq_false_iff.mpr c12; subst c12; rw [if_neg (by decide)] at H
      have H' := Aside0.mk H
      clear H
      try go_wp2
      replace BK11 := Aside0.mk (blk_drew BK11.out); replace HB := Aside0.mk (below_drew1 HB.out)
      refine start_ (n := 34) (S := fun w' => w'.cell? ⟨gb11, 0, none⟩ = some (.slice A0_0 l0_0.length c0_0) ∧ w'.cell? ⟨gb11, 1, none⟩ = some (.slice A0_1 l0_1.length c0_1) ∧ w'.cell? ⟨gb11, 2, none⟩ = some (.slice A0_2 l0_2.length c0_2) ∧ w'.cell? ⟨gb11, 3, none⟩ = some (.int .i64 a0_3) ∧ w'.cell? ⟨gb11, 4, none⟩ = some (.int .i64 a0_4)) (ds := []) _ (by kernel_rfl) rfl rfl ⟨bz BK11 0, bz BK11 1, bz BK11 2, bz BK11 3, bz BK11 4⟩ (fun hHeld => ?_); refine with_tabW impl_BlockOk.tab1 impl_BlockOk.bits1 (fun HT_ HW_ => ?_)
      generalize w3.drew = w16 at BK11 HB hHeld ⊢; refine pm 0 5 ?_; refine tm5 1 6 ?_; refine om 2 7 (fun K hK => ?_); refine goes_ Tryz.func67 (by kernel_rfl) rfl #[.slice A0_0 l0_0.length c0_0] (by rfl) rfl rfl slq ?_; refine (impl_ProgramOk.calls k _ _ l0_0 true _ (cb HR0_0) HC0_0.out A4.out).mono ?_; rintro e w17 ⟨rfl, hb⟩; refine ⟨_, rfl, ?_⟩; replace BK11 := kb BK11 hb; replace HB := hbs hb; clear hb; refine hK.out _ _ hd (fun hHeld => ?_); clear hK K; refine nm 7 ?_; refine wp 3 6 ?_; refine tm5 6 11 ?_; refine pm 7 12 ?_; refine om 8 13 (fun K hK => ?_); refine goes_ Tryz.func68 (by kernel_rfl) rfl #[.int .i64 (l0_1.length : Int)] (by rfl) rfl rfl slq ?_; (with_reducible refine (impl_isWarpCount.calls (l0_1.length : Int) true _ A6.out).mono ?_); rintro e w' ⟨rfl, ⟨nd, rfl⟩⟩; refine ⟨_, rfl, ?_⟩; refine hK.out _ _ hd (fun hHeld => ?_); clear hK K; refine nm 13 ?_; refine wp 9 13 ?_; refine tm5 13 18 ?_; refine om 14 19 (fun K hK => ?_); refine goes_ Tryz.func69 (by kernel_rfl) rfl #[.slice A0_2 l0_2.length c0_2] (by rfl) rfl rfl slq ?_; refine (impl_isMemory.calls _ _ l0_2 true _ (cb HR0_2) HC0_2.out A8.out).mono ?_; rintro e w' ⟨rfl, ⟨nd, rfl⟩⟩; refine ⟨_, rfl, ?_⟩; refine hK.out _ _ hd (fun hHeld => ?_); clear hK K; refine nm 19 ?_; refine pm 15 20 ?_; refine pm 16 21 ?_; refine pm 17 22 ?_; refine pm 18 23 ?_; refine pm 20 25 ?_; refine tm5 19 24 ?_; refine tm5 21 26 ?_; refine wp 22 25 ?_; refine om 25 30 (fun K hK => ?_); refine goes_ Tryz.func70 (by kernel_rfl) rfl #[.int .i64 a0_3, .int .i64 0, .int .i64 (wrap64 ((ji10) - 2))] (by rfl) rfl rfl (by (try simp only [List.map_toArray, List.map_cons, List.map_nil]); first | done | (simp only [hji10]; rfl) | rfl | (simp only [List.length_drop, List.length_take]; rfl)) ?_; (with_reducible refine (impl_within.calls a0_3 0 (wrap64 ((ji10) - 2)) false _ A11.out).mono ?_); rintro e w' ⟨rfl, ⟨nd, rfl⟩⟩; refine ⟨_, rfl, ?_⟩; refine hK.out _ _ hd (fun hHeld => ?_); clear hK K; refine nm 30 ?_; refine wp 26 29 ?_
      refine wu 29 33 ?_
      refine pm 33 38 ?_
      refine done_ (done_of HT_.out (by kernel_rfl)) ?_
      try go_wp2
      go_meet
      case rel => exact ⟨_, (true), rfx, H', ⟨omx⟩, ⟨bk⟩, ⟨bels⟩⟩
    ·replace c9 := Bool.eq_false_iff.mpr c9; subst c9; rw [if_neg (by decide)] at H
     have H' := Aside0.mk H
     clear H
     try go_wp2
     replace BK11 := Aside0.mk (blk_drew BK11.out); replace HB := Aside0.mk (below_drew1 HB.out)
     refine start_ (n := 34) (S := fun w' => w'.cell? ⟨gb11, 0, none⟩ = some (.slice A0_0 l0_0.length c0_0) ∧ w'.cell? ⟨gb11, 1, none⟩ = some (.slice A0_1 l0_1.length c0_1) ∧ w'.cell? ⟨gb11, 2, none⟩ = some (.slice A0_2 l0_2.length c0_2) ∧ w'.cell? ⟨gb11, 3, none⟩ = some (.int .i64 a0_3) ∧ w'.cell? ⟨gb11, 4, none⟩ = some (.int .i64 a0_4)) (ds := []) _ (by kernel_rfl) rfl rfl ⟨bz BK11 0, bz BK11 1, bz BK11 2, bz BK11 3, bz BK11 4⟩ (fun hHeld => ?_); refine with_tabW impl_BlockOk.tab1 impl_BlockOk.bits1 (fun HT_ HW_ => ?_)
     generalize w3.drew = w18 at BK11 HB hHeld ⊢; refine pm 0 5 ?_; refine tm5 1 6 ?_; refine om 2 7 (fun K hK => ?_); refine goes_ Tryz.func67 (by kernel_rfl) rfl #[.slice A0_0 l0_0.length c0_0] (by rfl) rfl rfl slq ?_; refine (impl_ProgramOk.calls k _ _ l0_0 true _ (cb HR0_0) HC0_0.out A4.out).mono ?_; rintro e w19 ⟨rfl, hb⟩; refine ⟨_, rfl, ?_⟩; replace BK11 := kb BK11 hb; replace HB := hbs hb; clear hb; refine hK.out _ _ hd (fun hHeld => ?_); clear hK K; refine nm 7 ?_; refine wp 3 6 ?_; refine tm5 6 11 ?_; refine pm 7 12 ?_; refine om 8 13 (fun K hK => ?_); refine goes_ Tryz.func68 (by kernel_rfl) rfl #[.int .i64 (l0_1.length : Int)] (by rfl) rfl rfl slq ?_; (with_reducible refine (impl_isWarpCount.calls (l0_1.length : Int) true _ A6.out).mono ?_); rintro e w' ⟨rfl, ⟨nd, rfl⟩⟩; refine ⟨_, rfl, ?_⟩; refine hK.out _ _ hd (fun hHeld => ?_); clear hK K; refine nm 13 ?_; refine wp 9 13 ?_; refine tm5 13 18 ?_; refine om 14 19 (fun K hK => ?_); refine goes_ Tryz.func69 (by kernel_rfl) rfl #[.slice A0_2 l0_2.length c0_2] (by rfl) rfl rfl slq ?_; refine (impl_isMemory.calls _ _ l0_2 false _ (cb HR0_2) HC0_2.out A8.out).mono ?_; rintro e w' ⟨rfl, ⟨nd, rfl⟩⟩; refine ⟨_, rfl, ?_⟩; refine hK.out _ _ hd (fun hHeld => ?_); clear hK K; refine nm 19 ?_; refine wp 15 18 ?_
     refine wu 18 27 ?_
     refine wp 27 29 ?_
     refine wu 29 33 ?_
     refine pm 33 38 ?_
     refine done_ (done_of HT_.out (by kernel_rfl)) ?_
     try go_wp2
     go_meet
     case rel => exact ⟨_, (true), rfx, H', ⟨omx⟩, ⟨bk⟩, ⟨bels⟩⟩
   ·replace c7 := Bool.eq_false_iff.mpr c7; subst c7; rw [if_neg (by decide)] at H
    have H' := Aside0.mk H
    clear H
    try go_wp2
    replace BK11 := Aside0.mk (blk_drew BK11.out); replace HB := Aside0.mk (below_drew1 HB.out)
    refine start_ (n := 34) (S := fun w' => w'.cell? ⟨gb11, 0, none⟩ = some (.slice A0_0 l0_0.length c0_0) ∧ w'.cell? ⟨gb11, 1, none⟩ = some (.slice A0_1 l0_1.length c0_1) ∧ w'.cell? ⟨gb11, 2, none⟩ = some (.slice A0_2 l0_2.length c0_2) ∧ w'.cell? ⟨gb11, 3, none⟩ = some (.int .i64 a0_3) ∧ w'.cell? ⟨gb11, 4, none⟩ = some (.int .i64 a0_4)) (ds := []) _ (by kernel_rfl) rfl rfl ⟨bz BK11 0, bz BK11 1, bz BK11 2, bz BK11 3, bz BK11 4⟩ (fun hHeld => ?_); refine with_tabW impl_BlockOk.tab1 impl_BlockOk.bits1 (fun HT_ HW_ => ?_)
    generalize w3.drew = w20 at BK11 HB hHeld ⊢; refine pm 0 5 ?_; refine tm5 1 6 ?_; refine om 2 7 (fun K hK => ?_); refine goes_ Tryz.func67 (by kernel_rfl) rfl #[.slice A0_0 l0_0.length c0_0] (by rfl) rfl rfl slq ?_; refine (impl_ProgramOk.calls k _ _ l0_0 true _ (cb HR0_0) HC0_0.out A4.out).mono ?_; rintro e w21 ⟨rfl, hb⟩; refine ⟨_, rfl, ?_⟩; replace BK11 := kb BK11 hb; replace HB := hbs hb; clear hb; refine hK.out _ _ hd (fun hHeld => ?_); clear hK K; refine nm 7 ?_; refine wp 3 6 ?_; refine tm5 6 11 ?_; refine pm 7 12 ?_; refine om 8 13 (fun K hK => ?_); refine goes_ Tryz.func68 (by kernel_rfl) rfl #[.int .i64 (l0_1.length : Int)] (by rfl) rfl rfl slq ?_; (with_reducible refine (impl_isWarpCount.calls (l0_1.length : Int) false _ A6.out).mono ?_); rintro e w' ⟨rfl, ⟨nd, rfl⟩⟩; refine ⟨_, rfl, ?_⟩; refine hK.out _ _ hd (fun hHeld => ?_); clear hK K; refine nm 13 ?_; refine wp 9 12 ?_
    refine wu 12 16 ?_
    refine wp 16 18 ?_
    refine wu 18 27 ?_
    refine wp 27 29 ?_
    refine wu 29 33 ?_
    refine pm 33 38 ?_
    refine done_ (done_of HT_.out (by kernel_rfl)) ?_
    try go_wp2
    go_meet
    case rel => exact ⟨_, (true), rfx, H', ⟨omx⟩, ⟨bk⟩, ⟨bels⟩⟩
  ·replace c5 := Bool.eq_false_iff.mpr c5; subst c5; rw [if_neg (by decide)] at H
   have H' := Aside0.mk H
   clear H
   try go_wp2
   replace BK11 := Aside0.mk (blk_drew BK11.out); replace HB := Aside0.mk (below_drew1 HB.out)
   refine start_ (n := 34) (S := fun w' => w'.cell? ⟨gb11, 0, none⟩ = some (.slice A0_0 l0_0.length c0_0) ∧ w'.cell? ⟨gb11, 1, none⟩ = some (.slice A0_1 l0_1.length c0_1) ∧ w'.cell? ⟨gb11, 2, none⟩ = some (.slice A0_2 l0_2.length c0_2) ∧ w'.cell? ⟨gb11, 3, none⟩ = some (.int .i64 a0_3) ∧ w'.cell? ⟨gb11, 4, none⟩ = some (.int .i64 a0_4)) (ds := []) _ (by kernel_rfl) rfl rfl ⟨bz BK11 0, bz BK11 1, bz BK11 2, bz BK11 3, bz BK11 4⟩ (fun hHeld => ?_); refine with_tabW impl_BlockOk.tab1 impl_BlockOk.bits1 (fun HT_ HW_ => ?_)
   generalize w3.drew = w22 at BK11 HB hHeld ⊢; refine pm 0 5 ?_; refine tm5 1 6 ?_; refine om 2 7 (fun K hK => ?_); refine goes_ Tryz.func67 (by kernel_rfl) rfl #[.slice A0_0 l0_0.length c0_0] (by rfl) rfl rfl slq ?_; refine (impl_ProgramOk.calls k _ _ l0_0 false _ (cb HR0_0) HC0_0.out A4.out).mono ?_; rintro e w23 ⟨rfl, hb⟩; refine ⟨_, rfl, ?_⟩; replace BK11 := kb BK11 hb; replace HB := hbs hb; clear hb; refine hK.out _ _ hd (fun hHeld => ?_); clear hK K; refine nm 7 ?_; refine wp 3 5 ?_
   refine wu 5 10 ?_
   refine wp 10 12 ?_
   refine wu 12 16 ?_
   refine wp 16 18 ?_
   refine wu 18 27 ?_
   refine wp 27 29 ?_
   refine wu 29 33 ?_
   refine pm 33 38 ?_
   refine done_ (done_of HT_.out (by kernel_rfl)) ?_
   try go_wp2
   go_meet
   case rel => exact ⟨_, (true), rfx, H', ⟨omx⟩, ⟨bk⟩, ⟨bels⟩⟩
 case rest =>
  clear HC2
  try clear p2
  try clear c5
  try clear c6
  try clear c7
  obtain ⟨kq, x38_1, rfl, HA, HJ1, BK11, HB⟩ := hcut
  cases kq with
  | zero => exact absurd HA.out (by simp [impl_BlockOk.j0])
  | succ kj1 =>
   have H := HA.out; clear HA
   simp only [impl_BlockOk.j0] at H
   by_cases c24 : x38_1 = true
   ·subst c24; rw [if_pos rfl] at H; obtain rfl := oI H
    go_wp2
    go_ret
    exact ⟨rfe, bels⟩
   ·replace c24 := Bool.eq_false_iff.mpr c24; subst c24; rw [if_neg (by decide)] at H
    have H' := Aside0.mk H
    clear H; obtain ⟨_, _, _, _, _, _, _, _, _, _⟩ := box5 BK11
    go_wp2
    go_loopg [42] kj1 (fun kq v42 w' => ∃ (x42_2 : Int), v42 = .int .i64 x42_2 ∧ Aside0 (impl_BlockOk.l0 kq l0_1 (l0_1.length : Int) x42_2 l0_0 l0_1 l0_2 a0_3 a0_4 = some r) ∧ Aside0 (kq ≤ kj1) ∧ Aside0 (w'.heap[gb11]? = some (.cells #[(.slice A0_0 l0_0.length c0_0), (.slice A0_1 l0_1.length c0_1), (.slice A0_2 l0_2.length c0_2), .int .i64 a0_3, .int .i64 a0_4] 33 (0, 0))) ∧ Aside0 (Below w.heap.size w w'))
    case atStart => exact ⟨(0), rfx, H', ⟨Nat.le_refl _⟩, ⟨bk⟩, ⟨bels⟩⟩
    case round =>
     clear H'
     try clear c2
     try clear p2
     try clear c5
     try clear c6
     try clear c7
     try clear c24
     try clear p2
     obtain ⟨x42_2, rfl, HA, HK2, BK11, HB⟩ := hrel
     cases gk with
     | zero => exact absurd HA.out (by simp [impl_BlockOk.l0])
     | succ k2 =>
      have H := HA.out; clear HA
      simp only [impl_BlockOk.l0] at H
      by_cases c26 : x42_2 < (l0_1.length : Int)
      ·rw [if_pos c26] at H
       have c26b0 := decide_eq_true c26
       clear c26
       obtain ⟨c27, H⟩ := ifS H
       have c27b0 := decide_eq_true c27
       clear c27
       obtain ⟨c28, H⟩ := ifS H
       have c28b0 := decide_eq_true c28
       clear c28
       by_cases c29 : ((rd_T59 l0_1 x42_2).f0) = x42_2
       ·rw [if_pos c29] at H
        have c29b0 : (((rd_T59 l0_1 x42_2).f0) == x42_2) = true := beq_iff_eq.mpr c29
        have c29b1 : (((rd_T59 l0_1 x42_2).f0) != x42_2) = false := bne_eq_false_iff_eq.mpr c29
        clear c29; obtain ⟨t19, A30, H⟩ := bnd H; (try dsimp only at H)
        by_cases c31 : t19 = true
        ·subst c31; rw [if_pos rfl] at H
         have H' := Aside0.mk H
         clear H
         have p17 : 0 ≤ (x42_2 : Int) := pq0
         have q17 : x42_2 < (l0_1.length : Int) := pq0
         obtain ⟨ad17, A17_1, c17_1, A17_2, c17_2, e17, hx17_0, hx17_1, hx17_2, hl17_1, hi17_1, hl17_2, hi17_2⟩ := at_T59 HR0_1.out x42_2 p17 q17
         cases e17
         replace hx17_0 := hxb hx17_0; replace hx17_1 := hxb hx17_1; replace hx17_2 := hxb hx17_2; have HR17_1 := Aside0.mk hi17_1; have HC17_1 := Aside0.mk hl17_1; clear hi17_1 hl17_1; have HR17_2 := Aside0.mk hi17_2; have HC17_2 := Aside0.mk hl17_2; clear hi17_2 hl17_2; replace p17 := eq_true p17; replace q17 := eq_true q17
         go_wp2_with (first | ((with_reducible refine gate_dst (N := 4) rfl ?_); (try (refine gate_guard (by rfl) ?_; dsimp only)); refine box_event ?hg (N := 4) ?hd (cs := #[.int .i64 0, .slice none 0 0, .slice none 0 0]) (t := 59) ?hr ?_; (case hd => rfl); (case hg => rfl); (case hr => exact gs); intro gb18 hg w32 hbox hb; have BK18 := Aside0.mk (hbox); have GW18 := Aside0.mk (gwe hg : w.heap.size ≤ _); have GE18 := GW18; have NB11_18 := Aside0.mk (nbl hg BK11); have NB18_11 := Aside0.mk (nbg hg BK11); replace BK11 := kb BK11 hb; replace HB := hbs hb; clear hb hbox hg; have hnb33 := NB18_11.out; have hnc33 := NB11_18.out; obtain ⟨_, _, _, _, _, _⟩ := box3 BK18; obtain ⟨_, _, _, _, _, _, _, _, _, _⟩ := box5 BK11) | (go_at_call 71; refine (impl_isWarpOf.calls k2 _ _ l0_0 ((rd_T59 l0_1 x42_2).f0) _ _ ((rd_T59 l0_1 x42_2).f1) _ _ ((rd_T59 l0_1 x42_2).f2) true _ (Kd.C_below HR0_0.out bels) HC0_0.out (Kd.C_below HR17_1.out bels) HC17_1.out (Kd.C_below HR17_2.out bels) HC17_2.out A30.out).mono ?_; rintro e w36 ⟨rfl, hb⟩; replace BK11 := kbb BK11 hb; replace BK18 := Aside0.mk (blk_below (g := gb18) (o := .cells #[.int .i64 ((rd_T59 l0_1 x42_2).f0), .slice A17_1 ((rd_T59 l0_1 x42_2).f1).length c17_1, .slice A17_2 ((rd_T59 l0_1 x42_2).f2).length c17_2] 59 (0, 0)) (bkp) hb); replace HB := hbs hb; clear hb))
         go_roundg k2
         case measure => have := HJ1.out; have := HK2.out; omega
         case rel => exact ⟨(wrap64 (x42_2 + 1)), rfx, H', ⟨by have := HJ1.out; have := HK2.out; omega⟩, ⟨bk⟩, ⟨bels⟩⟩
        ·replace c31 := Bool.eq_false_iff.mpr c31; subst c31; rw [if_neg (by decide)] at H; obtain rfl := oI H
         have p17 : 0 ≤ (x42_2 : Int) := pq0
         have q17 : x42_2 < (l0_1.length : Int) := pq0
         obtain ⟨ad17, A17_1, c17_1, A17_2, c17_2, e17, hx17_0, hx17_1, hx17_2, hl17_1, hi17_1, hl17_2, hi17_2⟩ := at_T59 HR0_1.out x42_2 p17 q17
         cases e17
         replace hx17_0 := hxb hx17_0; replace hx17_1 := hxb hx17_1; replace hx17_2 := hxb hx17_2; have HR17_1 := Aside0.mk hi17_1; have HC17_1 := Aside0.mk hl17_1; clear hi17_1 hl17_1; have HR17_2 := Aside0.mk hi17_2; have HC17_2 := Aside0.mk hl17_2; clear hi17_2 hl17_2; replace p17 := eq_true p17; replace q17 := eq_true q17
         go_wp2_with (first | ((with_reducible refine gate_dst (N := 4) rfl ?_); (try (refine gate_guard (by rfl) ?_; dsimp only)); refine box_event ?hg (N := 4) ?hd (cs := #[.int .i64 0, .slice none 0 0, .slice none 0 0]) (t := 59) ?hr ?_; (case hd => rfl); (case hg => rfl); (case hr => exact gs); intro gb18 hg w37 hbox hb; have BK18 := Aside0.mk (hbox); have GW18 := Aside0.mk (gwe hg : w.heap.size ≤ _); have GE18 := GW18; have NB11_18 := Aside0.mk (nbl hg BK11); have NB18_11 := Aside0.mk (nbg hg BK11); replace BK11 := kb BK11 hb; replace HB := hbs hb; clear hb hbox hg; have hnb38 := NB18_11.out; have hnc38 := NB11_18.out; obtain ⟨_, _, _, _, _, _⟩ := box3 BK18; obtain ⟨_, _, _, _, _, _, _, _, _, _⟩ := box5 BK11) | (go_at_call 71; refine (impl_isWarpOf.calls k2 _ _ l0_0 ((rd_T59 l0_1 x42_2).f0) _ _ ((rd_T59 l0_1 x42_2).f1) _ _ ((rd_T59 l0_1 x42_2).f2) false _ (Kd.C_below HR0_0.out bels) HC0_0.out (Kd.C_below HR17_1.out bels) HC17_1.out (Kd.C_below HR17_2.out bels) HC17_2.out A30.out).mono ?_; rintro e w41 ⟨rfl, hb⟩; replace BK11 := kbb BK11 hb; replace BK18 := Aside0.mk (blk_below (g := gb18) (o := .cells #[.int .i64 ((rd_T59 l0_1 x42_2).f0), .slice A17_1 ((rd_T59 l0_1 x42_2).f1).length c17_1, .slice A17_2 ((rd_T59 l0_1 x42_2).f2).length c17_2] 59 (0, 0)) (bkp) hb); replace HB := hbs hb; clear hb))
         go_ret
         exact ⟨rfe, bels⟩
       ·rw [if_neg c29] at H
        have c29b0 : (((rd_T59 l0_1 x42_2).f0) == x42_2) = false := beq_eq_false_iff_ne.mpr c29
        have c29b1 : (((rd_T59 l0_1 x42_2).f0) != x42_2) = true := bne_iff_ne.mpr c29
        obtain rfl := oI H
        have p17 : 0 ≤ (x42_2 : Int) := pq0
        have q17 : x42_2 < (l0_1.length : Int) := pq0
        obtain ⟨ad17, A17_1, c17_1, A17_2, c17_2, e17, hx17_0, hx17_1, hx17_2, hl17_1, hi17_1, hl17_2, hi17_2⟩ := at_T59 HR0_1.out x42_2 p17 q17
        cases e17
        replace hx17_0 := hxb hx17_0; replace hx17_1 := hxb hx17_1; replace hx17_2 := hxb hx17_2; have HR17_1 := Aside0.mk hi17_1; have HC17_1 := Aside0.mk hl17_1; clear hi17_1 hl17_1; have HR17_2 := Aside0.mk hi17_2; have HC17_2 := Aside0.mk hl17_2; clear hi17_2 hl17_2; replace p17 := eq_true p17; replace q17 := eq_true q17
        go_wp2_with (first | ((with_reducible refine gate_dst (N := 4) rfl ?_); (try (refine gate_guard (by rfl) ?_; dsimp only)); refine box_event ?hg (N := 4) ?hd (cs := #[.int .i64 0, .slice none 0 0, .slice none 0 0]) (t := 59) ?hr ?_; (case hd => rfl); (case hg => rfl); (case hr => exact gs); intro gb18 hg w42 hbox hb; have BK18 := Aside0.mk (hbox); have GW18 := Aside0.mk (gwe hg : w.heap.size ≤ _); have GE18 := GW18; have NB11_18 := Aside0.mk (nbl hg BK11); have NB18_11 := Aside0.mk (nbg hg BK11); replace BK11 := kb BK11 hb; replace HB := hbs hb; clear hb hbox hg; have hnb43 := NB18_11.out; have hnc43 := NB11_18.out; obtain ⟨_, _, _, _, _, _⟩ := box3 BK18))
        go_ret
        exact ⟨rfe, bels⟩
      ·rw [if_neg c26] at H
       have c26b0 := decide_eq_false c26
       clear c26; obtain rfl := oI H
       go_wp2
       go_ret
       exact ⟨rfe, bels⟩

/-! ### impl_Block_nextIns: function 85 -/
def impl_Block_nextIns.f (l0_0 : List (S95)) (l0_1 : List (S59)) (l0_2 : List Int) (a0_3 : Int) (a0_4 : Int) (a1 : Int) : Option (Int × Int × Int × Int × Bool) := if 0 ≤ a1 then (if a1 < (l0_1.length : Int) then (if (((rd_T59 l0_1 a1).f1).length : Int) = 0 then (some (0, 0, 0, 0, false)) else (if 0 ≤ (wrap64 ((((rd_T59 l0_1 a1).f1).length : Int) - 1)) then (if (wrap64 ((((rd_T59 l0_1 a1).f1).length : Int) - 1)) < (((rd_T59 l0_1 a1).f1).length : Int) then (if 0 ≤ ((rd_T132 ((rd_T59 l0_1 a1).f1) (wrap64 ((((rd_T59 l0_1 a1).f1).length : Int) - 1))).f0) then (if ((rd_T132 ((rd_T59 l0_1 a1).f1) (wrap64 ((((rd_T59 l0_1 a1).f1).length : Int) - 1))).f0) < (l0_0.length : Int) then (some ((rd_T95 l0_0 ((rd_T132 ((rd_T59 l0_1 a1).f1) (wrap64 ((((rd_T59 l0_1 a1).f1).length : Int) - 1))).f0)).f0, (rd_T95 l0_0 ((rd_T132 ((rd_T59 l0_1 a1).f1) (wrap64 ((((rd_T59 l0_1 a1).f1).length : Int) - 1))).f0)).f1, (rd_T95 l0_0 ((rd_T132 ((rd_T59 l0_1 a1).f1) (wrap64 ((((rd_T59 l0_1 a1).f1).length : Int) - 1))).f0)).f2, (rd_T95 l0_0 ((rd_T132 ((rd_T59 l0_1 a1).f1) (wrap64 ((((rd_T59 l0_1 a1).f1).length : Int) - 1))).f0)).f3, true)) else (none)) else (none)) else (none)) else (none))) else (none)) else (none)
def impl_Block_nextIns.T4 : Bool × List (List Nat × List Nat) := (true, [([], []), ([0], [0]), ([], []), ([], []), ([3], [3]), ([4], [4]), ([2, 5], [2, 5]), ([6], [6]), ([7], [7]), ([1, 8], [1, 8]), ([9], [9]), ([10, 0, 1, 2, 3, 4, 5, 6, 7, 8, 9, 10], [10]), ([11, 0, 1, 2, 3, 4, 5, 6, 7, 8, 9, 10, 11], [])])
def impl_Block_nextIns.B4 : List Nat := [0, 1, 0, 0, 8, 24, 60, 124, 252, 511, 1023, 2047, 4095]
theorem impl_Block_nextIns.tab4 : rtab .any (opsOf Tryz.f85 4) = impl_Block_nextIns.T4 := by kernel_rfl
theorem impl_Block_nextIns.bits4 : waitsOk impl_Block_nextIns.T4.2 impl_Block_nextIns.B4 = true := by kernel_rfl
set_option maxHeartbeats 8000000 in
set_option maxRecDepth 100000 in
theorem impl_Block_nextIns.calls (A0_0 : Option Addr) (c0_0 : Nat) (l0_0 : List (S95)) (A0_1 : Option Addr) (c0_1 : Nat) (l0_1 : List (S59)) (A0_2 : Option Addr) (c0_2 : Nat) (l0_2 : List Int) (a0_3 : Int) (a0_4 : Int) (a1 : Int) (r1 : Int) (r2 : Int) (r3 : Int) (r4 : Int) (r5 : Bool) (w : World) (hr0_0 : Kd.C k95 w A0_0 l0_0.length l0_0) (hc0_0 : l0_0.length ≤ c0_0) (hr0_1 : Kd.C k59 w A0_1 l0_1.length l0_1) (hc0_1 : l0_1.length ≤ c0_1) (hr0_2 : Kd.C (Kd.int .i64) w A0_2 l0_2.length l0_2) (hc0_2 : l0_2.length ≤ c0_2) (h : impl_Block_nextIns.f l0_0 l0_1 l0_2 a0_3 a0_4 a1 = some (r1, r2, r3, r4, r5)) :
  Calls Tryz.prog 85 #[.agg #[.slice A0_0 l0_0.length c0_0, .slice A0_1 l0_1.length c0_1, .slice A0_2 l0_2.length c0_2, .int .i64 a0_3, .int .i64 a0_4], .int .i64 a1] w fun e w' => e = .returned (.tuple #[.agg #[.int .i64 r1, .int .i64 r2, .int .i64 r3, .int .i64 r4], .bool r5]) ∧ Below w.heap.size w w' := by
 have hu33 := Tryz.underlying33; have hu95 := Tryz.underlying95; have HR0_0 := Aside0.mk hr0_0; have HC0_0 := Aside0.mk hc0_0; clear hr0_0 hc0_0; have HR0_1 := Aside0.mk hr0_1; have HC0_1 := Aside0.mk hc0_1; clear hr0_1 hc0_1; have HR0_2 := Aside0.mk hr0_2; have HC0_2 := Aside0.mk hc0_2; clear hr0_2 hc0_2; have HB := Aside0.mk (Below.refl w.heap.size w)
 have H : (if 0 ≤ a1 then (if a1 < (l0_1.length : Int) then (if (((rd_T59 l0_1 a1).f1).length : Int) = 0 then (some (0, 0, 0, 0, false)) else (if 0 ≤ (wrap64 ((((rd_T59 l0_1 a1).f1).length : Int) - 1)) then (if (wrap64 ((((rd_T59 l0_1 a1).f1).length : Int) - 1)) < (((rd_T59 l0_1 a1).f1).length : Int) then (if 0 ≤ ((rd_T132 ((rd_T59 l0_1 a1).f1) (wrap64 ((((rd_T59 l0_1 a1).f1).length : Int) - 1))).f0) then (if ((rd_T132 ((rd_T59 l0_1 a1).f1) (wrap64 ((((rd_T59 l0_1 a1).f1).length : Int) - 1))).f0) < (l0_0.length : Int) then (some ((rd_T95 l0_0 ((rd_T132 ((rd_T59 l0_1 a1).f1) (wrap64 ((((rd_T59 l0_1 a1).f1).length : Int) - 1))).f0)).f0, (rd_T95 l0_0 ((rd_T132 ((rd_T59 l0_1 a1).f1) (wrap64 ((((rd_T59 l0_1 a1).f1).length : Int) - 1))).f0)).f1, (rd_T95 l0_0 ((rd_T132 ((rd_T59 l0_1 a1).f1) (wrap64 ((((rd_T59 l0_1 a1).f1).length : Int) - 1))).f0)).f2, (rd_T95 l0_0 ((rd_T132 ((rd_T59 l0_1 a1).f1) (wrap64 ((((rd_T59 l0_1 a1).f1).length : Int) - 1))).f0)).f3, true)) else (none)) else (none)) else (none)) else (none))) else (none)) else (none)) = some (r1, r2, r3, r4, r5) := h
 clear h
 obtain ⟨c3, H⟩ := ifS H
 have c3b0 := decide_eq_true c3
 clear c3
 obtain ⟨c4, H⟩ := ifS H
 have c4b0 := decide_eq_true c4
 clear c4
 by_cases c5 : (((rd_T59 l0_1 a1).f1).length : Int) = 0
 ·rw [if_pos c5] at H
  have c5b0 : ((((rd_T59 l0_1 a1).f1).length : Int) == 0) = true := beq_iff_eq.mpr c5
  have c5b1 : ((((rd_T59 l0_1 a1).f1).length : Int) != 0) = false := bne_eq_false_iff_eq.mpr c5
  clear c5
  simp only [Option.some.injEq, Prod.mk.injEq] at H
  obtain ⟨rfl, rfl, rfl, rfl, rfl⟩ := H
  go_enter Tryz.func85, Tryz.ntmps85
  go_wp2_with (first | (refine bxe 2 #[.slice A0_0 l0_0.length c0_0, .slice A0_1 l0_1.length c0_1, .slice A0_2 l0_2.length c0_2, .int .i64 a0_3, .int .i64 a0_4] 33 ?_; intro gb11 hg w6 hbox hb; have BK11 := Aside0.mk (hbox); have GW11 := Aside0.mk (gwe hg : w.heap.size ≤ _); have GE11 := GW11; replace HB := hbs hb; clear hb hbox hg) | (refine bxe 4 #[.int .i64 0, .int .i64 0, .int .i64 0, .int .i64 0] 95 ?_; intro gb12 hg w7 hbox hb; have BK12 := Aside0.mk (hbox); have GW12 := Aside0.mk (gwe hg : w.heap.size ≤ _); have GE12 := GW12; have NB11_12 := Aside0.mk (nbl hg BK11); have NB12_11 := Aside0.mk (nbg hg BK11); replace BK11 := kb BK11 hb; replace HB := hbs hb; clear hb hbox hg; have hnb8 := NB11_12.out; have hnc8 := NB12_11.out; obtain ⟨_, _, _, _, _, _, _, _, _, _⟩ := box5 BK11; have p13 : 0 ≤ (a1 : Int) := pq0; have q13 : a1 < (l0_1.length : Int) := pq0; obtain ⟨ad13, A13_1, c13_1, A13_2, c13_2, e13, hx13_0, hx13_1, hx13_2, hl13_1, hi13_1, hl13_2, hi13_2⟩ := at_T59 HR0_1.out a1 p13 q13; cases e13; replace hx13_0 := hxb hx13_0; replace hx13_1 := hxb hx13_1; replace hx13_2 := hxb hx13_2; have HR13_1 := Aside0.mk hi13_1; have HC13_1 := Aside0.mk hl13_1; clear hi13_1 hl13_1; have HR13_2 := Aside0.mk hi13_2; have HC13_2 := Aside0.mk hl13_2; clear hi13_2 hl13_2; replace p13 := eq_true p13; replace q13 := eq_true q13; obtain ⟨_, _, _, _, _, _, _, _⟩ := box4 BK12))
  refine bodyPost_ret (results_ct rfl _ _ gb12 95 #[.int .i64 0, .int .i64 0, .int .i64 0, .int .i64 0] (0, 0) _ rfl (bkp) Tryz.underlying95 rfl (by kernel_rfl)) rfl ?_
  exact ⟨rfe, bels⟩
 ·rw [if_neg c5] at H
  have c5b0 : ((((rd_T59 l0_1 a1).f1).length : Int) == 0) = false := beq_eq_false_iff_ne.mpr c5
  have c5b1 : ((((rd_T59 l0_1 a1).f1).length : Int) != 0) = true := bne_iff_ne.mpr c5
  have c5b2 : ¬ (((rd_T59 l0_1 a1).f1) = []) := fun h_ => c5 (by rw [h_]; rfl)
  obtain ⟨ji11, hji11⟩ : ∃ j_ : Int, (wrap64 ((((rd_T59 l0_1 a1).f1).length : Int) - 1)) = j_ := ⟨_, rfl⟩
  (first | rw [hji11] at H | simp only [hji11] at H)
  have hji11w : (IntKind.i64.wrap ((((rd_T59 l0_1 a1).f1).length : Int) - 1)) = ji11 := (i64_w _).trans hji11
  obtain ⟨c12, H⟩ := ifS H
  have c12b0 := decide_eq_true c12
  clear c12
  obtain ⟨c13, H⟩ := ifS H
  have c13b0 := decide_eq_true c13
  clear c13
  obtain ⟨c14, H⟩ := ifS H
  have c14b0 := decide_eq_true c14
  clear c14
  obtain ⟨c15, H⟩ := ifS H
  have c15b0 := decide_eq_true c15
  clear c15
  simp only [Option.some.injEq, Prod.mk.injEq] at H
  obtain ⟨rfl, rfl, rfl, rfl, rfl⟩ := H
  go_enter Tryz.func85, Tryz.ntmps85
  try go_wp2_with (first | (refine bxe 2 #[.slice A0_0 l0_0.length c0_0, .slice A0_1 l0_1.length c0_1, .slice A0_2 l0_2.length c0_2, .int .i64 a0_3, .int .i64 a0_4] 33 ?_; intro gb11 hg w16 hbox hb; have BK11 := Aside0.mk (hbox); have GW11 := Aside0.mk (gwe hg : w.heap.size ≤ _); have GE11 := GW11; replace HB := hbs hb; clear hb hbox hg) | (refine bxe 4 #[.int .i64 0, .int .i64 0, .int .i64 0, .int .i64 0] 95 ?_; intro gb12 hg w17 hbox hb; have BK12 := Aside0.mk (hbox); have GW12 := Aside0.mk (gwe hg : w.heap.size ≤ _); have GE12 := GW12; have NB11_12 := Aside0.mk (nbl hg BK11); have NB12_11 := Aside0.mk (nbg hg BK11); replace BK11 := kb BK11 hb; replace HB := hbs hb; clear hb hbox hg; have hnb18 := NB11_12.out; have hnc18 := NB12_11.out; obtain ⟨_, _, _, _, _, _, _, _, _, _⟩ := box5 BK11; have p13 : 0 ≤ (a1 : Int) := pq0; have q13 : a1 < (l0_1.length : Int) := pq0; obtain ⟨ad13, A13_1, c13_1, A13_2, c13_2, e13, hx13_0, hx13_1, hx13_2, hl13_1, hi13_1, hl13_2, hi13_2⟩ := at_T59 HR0_1.out a1 p13 q13; cases e13; replace hx13_0 := hxb hx13_0; replace hx13_1 := hxb hx13_1; replace hx13_2 := hxb hx13_2; have HR13_1 := Aside0.mk hi13_1; have HC13_1 := Aside0.mk hl13_1; clear hi13_1 hl13_1; have HR13_2 := Aside0.mk hi13_2; have HC13_2 := Aside0.mk hl13_2; clear hi13_2 hl13_2; replace p13 := eq_true p13; replace q13 := eq_true q13))
  replace BK11 := Aside0.mk (blk_drew BK11.out); replace BK12 := Aside0.mk (blk_drew BK12.out); replace HB := Aside0.mk (below_drew1 HB.out)
  have p14 : 0 ≤ ((ji11) : Int) := pq0
  have q14 : (ji11) < (((rd_T59 l0_1 a1).f1).length : Int) := pq0
  obtain ⟨ad14, e14, hx14_0, hx14_1, hx14_2⟩ := at_T132 HR13_1.out (ji11) p14 q14; have hw14_2 := hx14_2; have hw14_1 := hx14_1; have hw14_0 := hx14_0
  cases e14
  replace hx14_0 := hxb hx14_0; replace hx14_1 := hxb hx14_1; replace hx14_2 := hxb hx14_2; replace p14 := eq_true p14; replace q14 := eq_true q14
  have p15 : 0 ≤ (((rd_T132 ((rd_T59 l0_1 a1).f1) (ji11)).f0) : Int) := pq0
  have q15 : ((rd_T132 ((rd_T59 l0_1 a1).f1) (ji11)).f0) < (l0_0.length : Int) := pq0
  obtain ⟨ad15, e15, hx15_0, hx15_1, hx15_2, hx15_3⟩ := at_T95 HR0_0.out ((rd_T132 ((rd_T59 l0_1 a1).f1) (ji11)).f0) p15 q15; have hw15_3 := hx15_3; have hw15_2 := hx15_2; have hw15_1 := hx15_1; have hw15_0 := hx15_0
  cases e15
  replace hx15_0 := hxb hx15_0; replace hx15_1 := hxb hx15_1; replace hx15_2 := hxb hx15_2; replace hx15_3 := hxb hx15_3; replace p15 := eq_true p15; replace q15 := eq_true q15
  refine start_ (n := 13) (S := fun w' => w'.cell? ⟨gb11, 0, none⟩ = some (.slice (some ad15) l0_0.length c0_0) ∧ w'.cell? ⟨gb11, 1, none⟩ = some (.slice (some ad13) l0_1.length c0_1) ∧ w'.cell? ⟨gb11, 2, none⟩ = some (.slice A0_2 l0_2.length c0_2) ∧ w'.cell? ⟨gb11, 3, none⟩ = some (.int .i64 a0_3) ∧ w'.cell? ⟨gb11, 4, none⟩ = some (.int .i64 a0_4) ∧ w'.cell? (ad14.add (((ji11)).toNat * 3)) = some (.int .i64 ((rd_T132 ((rd_T59 l0_1 a1).f1) (ji11)).f0)) ∧ w'.cell? ⟨(ad14.add (((ji11)).toNat * 3)).block, (ad14.add (((ji11)).toNat * 3)).off + 1, none⟩ = some (.int .i64 ((rd_T132 ((rd_T59 l0_1 a1).f1) (ji11)).f1)) ∧ w'.cell? ⟨(ad14.add (((ji11)).toNat * 3)).block, (ad14.add (((ji11)).toNat * 3)).off + 2, none⟩ = some (.int .i64 ((rd_T132 ((rd_T59 l0_1 a1).f1) (ji11)).f2)) ∧ w'.cell? (ad15.add ((((rd_T132 ((rd_T59 l0_1 a1).f1) (ji11)).f0)).toNat * 4)) = some (.int .i64 ((rd_T95 l0_0 ((rd_T132 ((rd_T59 l0_1 a1).f1) (ji11)).f0)).f0)) ∧ w'.cell? ⟨(ad15.add ((((rd_T132 ((rd_T59 l0_1 a1).f1) (ji11)).f0)).toNat * 4)).block, (ad15.add ((((rd_T132 ((rd_T59 l0_1 a1).f1) (ji11)).f0)).toNat * 4)).off + 1, none⟩ = some (.int .i64 ((rd_T95 l0_0 ((rd_T132 ((rd_T59 l0_1 a1).f1) (ji11)).f0)).f1)) ∧ w'.cell? ⟨(ad15.add ((((rd_T132 ((rd_T59 l0_1 a1).f1) (ji11)).f0)).toNat * 4)).block, (ad15.add ((((rd_T132 ((rd_T59 l0_1 a1).f1) (ji11)).f0)).toNat * 4)).off + 2, none⟩ = some (.int .i64 ((rd_T95 l0_0 ((rd_T132 ((rd_T59 l0_1 a1).f1) (ji11)).f0)).f2)) ∧ w'.cell? ⟨(ad15.add ((((rd_T132 ((rd_T59 l0_1 a1).f1) (ji11)).f0)).toNat * 4)).block, (ad15.add ((((rd_T132 ((rd_T59 l0_1 a1).f1) (ji11)).f0)).toNat * 4)).off + 3, none⟩ = some (.int .i64 ((rd_T95 l0_0 ((rd_T132 ((rd_T59 l0_1 a1).f1) (ji11)).f0)).f3))) (ds := []) _ (by kernel_rfl) rfl rfl ⟨bz BK11 0, bz BK11 1, bz BK11 2, bz BK11 3, bz BK11 4, (hxb hw14_0), (hxb hw14_1), (hxb hw14_2), (hxb hw15_0), (hxb hw15_1), (hxb hw15_2), (hxb hw15_3)⟩ (fun hHeld => ?_); refine with_tabW impl_Block_nextIns.tab4 impl_Block_nextIns.bits4 (fun HT_ HW_ => ?_)
  generalize w17.drew = w20 at BK11 BK12 HB hx14_0 hx14_1 hx14_2 hx15_0 hx15_1 hx15_2 hx15_3 hHeld ⊢; refine pm 0 17 ?_; refine pm 2 19 ?_; refine pm 3 20 ?_; refine pm 4 21 ?_; refine pm 5 22 ?_; refine pm 6 23 ?_; refine pm 7 24 ?_; refine tm12 1 18 ?_; refine tm12 8 25 ?_; refine pm 9 26 ?_; refine tm12 10 27 ?_
  refine one_ (i := 11) (N := none) #[true, true, true, true, true, true, true, true, true, true, true, true, false] rfl rfl (one_of HT_.out (by kernel_rfl)) (by decide) (fun K hK => ?_)
  have hs21 : w20.cell? ⟨gb12, 0, none⟩ = some (.int .i64 0) := (blk_cell BK12.out 0).trans rfl
  have hfs21 := blk_frozen BK12.out 0; have hns21_0 := NB11_12.out; have hms21_0 := NB12_11.out
  have hs22 : w20.cell? ⟨gb12, 1, none⟩ = some (.int .i64 0) := (blk_cell BK12.out 1).trans rfl
  have hfs22 := blk_frozen BK12.out 1; have hns22_0 := NB11_12.out; have hms22_0 := NB12_11.out
  have hs23 : w20.cell? ⟨gb12, 2, none⟩ = some (.int .i64 0) := (blk_cell BK12.out 2).trans rfl
  have hfs23 := blk_frozen BK12.out 2; have hns23_0 := NB11_12.out; have hms23_0 := NB12_11.out
  have hs24 : w20.cell? ⟨gb12, 3, none⟩ = some (.int .i64 0) := (blk_cell BK12.out 3).trans rfl
  have hfs24 := blk_frozen BK12.out 3; have hns24_0 := NB11_12.out; have hms24_0 := NB12_11.out
  refine skip_ (w1 := ?_) (by rfl) rfl ?_ ?_
  rotate_left
  ·go_simp
   rfl
  refine hK.out _ _ ⟨((cell_far (p := ⟨gb12, _, none⟩) NB11_12.out _).trans (((cell_far (p := ⟨gb12, _, none⟩) NB11_12.out _).trans (((cell_far (p := ⟨gb12, _, none⟩) NB11_12.out _).trans (((cell_far (p := ⟨gb12, _, none⟩) NB11_12.out _).trans (hHeld.1)))))))), ((cell_far (p := ⟨gb12, _, none⟩) NB11_12.out _).trans (((cell_far (p := ⟨gb12, _, none⟩) NB11_12.out _).trans (((cell_far (p := ⟨gb12, _, none⟩) NB11_12.out _).trans (((cell_far (p := ⟨gb12, _, none⟩) NB11_12.out _).trans (hHeld.2.1)))))))), ((cell_far (p := ⟨gb12, _, none⟩) NB11_12.out _).trans (((cell_far (p := ⟨gb12, _, none⟩) NB11_12.out _).trans (((cell_far (p := ⟨gb12, _, none⟩) NB11_12.out _).trans (((cell_far (p := ⟨gb12, _, none⟩) NB11_12.out _).trans (hHeld.2.2.1)))))))), ((cell_far (p := ⟨gb12, _, none⟩) NB11_12.out _).trans (((cell_far (p := ⟨gb12, _, none⟩) NB11_12.out _).trans (((cell_far (p := ⟨gb12, _, none⟩) NB11_12.out _).trans (((cell_far (p := ⟨gb12, _, none⟩) NB11_12.out _).trans (hHeld.2.2.2.1)))))))), ((cell_far (p := ⟨gb12, _, none⟩) NB11_12.out _).trans (((cell_far (p := ⟨gb12, _, none⟩) NB11_12.out _).trans (((cell_far (p := ⟨gb12, _, none⟩) NB11_12.out _).trans (((cell_far (p := ⟨gb12, _, none⟩) NB11_12.out _).trans (hHeld.2.2.2.2.1)))))))), ((cell_far (p := ⟨gb12, _, none⟩) (nlv hw14_0 GW12) _).trans (((cell_far (p := ⟨gb12, _, none⟩) (nlv hw14_0 GW12) _).trans (((cell_far (p := ⟨gb12, _, none⟩) (nlv hw14_0 GW12) _).trans (((cell_far (p := ⟨gb12, _, none⟩) (nlv hw14_0 GW12) _).trans (hHeld.2.2.2.2.2.1)))))))), ((cell_far (p := ⟨gb12, _, none⟩) (nlv hw14_1 GW12) _).trans (((cell_far (p := ⟨gb12, _, none⟩) (nlv hw14_1 GW12) _).trans (((cell_far (p := ⟨gb12, _, none⟩) (nlv hw14_1 GW12) _).trans (((cell_far (p := ⟨gb12, _, none⟩) (nlv hw14_1 GW12) _).trans (hHeld.2.2.2.2.2.2.1)))))))), ((cell_far (p := ⟨gb12, _, none⟩) (nlv hw14_2 GW12) _).trans (((cell_far (p := ⟨gb12, _, none⟩) (nlv hw14_2 GW12) _).trans (((cell_far (p := ⟨gb12, _, none⟩) (nlv hw14_2 GW12) _).trans (((cell_far (p := ⟨gb12, _, none⟩) (nlv hw14_2 GW12) _).trans (hHeld.2.2.2.2.2.2.2.1)))))))), ((cell_far (p := ⟨gb12, _, none⟩) (nlv hw15_0 GW12) _).trans (((cell_far (p := ⟨gb12, _, none⟩) (nlv hw15_0 GW12) _).trans (((cell_far (p := ⟨gb12, _, none⟩) (nlv hw15_0 GW12) _).trans (((cell_far (p := ⟨gb12, _, none⟩) (nlv hw15_0 GW12) _).trans (hHeld.2.2.2.2.2.2.2.2.1)))))))), ((cell_far (p := ⟨gb12, _, none⟩) (nlv hw15_1 GW12) _).trans (((cell_far (p := ⟨gb12, _, none⟩) (nlv hw15_1 GW12) _).trans (((cell_far (p := ⟨gb12, _, none⟩) (nlv hw15_1 GW12) _).trans (((cell_far (p := ⟨gb12, _, none⟩) (nlv hw15_1 GW12) _).trans (hHeld.2.2.2.2.2.2.2.2.2.1)))))))), ((cell_far (p := ⟨gb12, _, none⟩) (nlv hw15_2 GW12) _).trans (((cell_far (p := ⟨gb12, _, none⟩) (nlv hw15_2 GW12) _).trans (((cell_far (p := ⟨gb12, _, none⟩) (nlv hw15_2 GW12) _).trans (((cell_far (p := ⟨gb12, _, none⟩) (nlv hw15_2 GW12) _).trans (hHeld.2.2.2.2.2.2.2.2.2.2.1)))))))), ((cell_far (p := ⟨gb12, _, none⟩) (nlv hw15_3 GW12) _).trans (((cell_far (p := ⟨gb12, _, none⟩) (nlv hw15_3 GW12) _).trans (((cell_far (p := ⟨gb12, _, none⟩) (nlv hw15_3 GW12) _).trans (((cell_far (p := ⟨gb12, _, none⟩) (nlv hw15_3 GW12) _).trans (hHeld.2.2.2.2.2.2.2.2.2.2.2))))))))⟩ (fun hHeld => ?_); clear hK K
  refine pm 12 5 ?_
  refine done_ (done_of HT_.out (by kernel_rfl)) ?_
  try go_wp2
  refine bodyPost_ret (results_ct rfl _ _ gb12 95 #[.int .i64 ((rd_T95 l0_0 ((rd_T132 ((rd_T59 l0_1 a1).f1) (ji11)).f0)).f0), .int .i64 ((rd_T95 l0_0 ((rd_T132 ((rd_T59 l0_1 a1).f1) (ji11)).f0)).f1), .int .i64 ((rd_T95 l0_0 ((rd_T132 ((rd_T59 l0_1 a1).f1) (ji11)).f0)).f2), .int .i64 ((rd_T95 l0_0 ((rd_T132 ((rd_T59 l0_1 a1).f1) (ji11)).f0)).f3)] (0, 0) _ rfl (bkp) Tryz.underlying95 rfl (by kernel_rfl)) rfl ?_
  exact ⟨by first | rfl | (simp [errW_none, errW_some] <;> rfl) | (simp only [← hji11]; first | rfl | (simp [errW_none, errW_some] <;> rfl)) | (simp [*, errW_none, errW_some] <;> rfl), bels⟩

/-! ### impl_Block_waits: function 86 -/
def impl_Block_waits.f (l0_0 : List (S95)) (l0_1 : List (S59)) (l0_2 : List Int) (a0_3 : Int) (a0_4 : Int) (a1 : Int) : Option (Bool) := if 0 ≤ a1 then (some ((Go.bits .and .i64 (shr .i64 a0_3 a1) 1) == 1)) else (none)
set_option maxHeartbeats 8000000 in
set_option maxRecDepth 100000 in
theorem impl_Block_waits.calls (A0_0 : Option Addr) (c0_0 : Nat) (l0_0 : List (S95)) (A0_1 : Option Addr) (c0_1 : Nat) (l0_1 : List (S59)) (A0_2 : Option Addr) (c0_2 : Nat) (l0_2 : List Int) (a0_3 : Int) (a0_4 : Int) (a1 : Int) (r : Bool) (w : World) (hr0_0 : Kd.C k95 w A0_0 l0_0.length l0_0) (hc0_0 : l0_0.length ≤ c0_0) (hr0_1 : Kd.C k59 w A0_1 l0_1.length l0_1) (hc0_1 : l0_1.length ≤ c0_1) (hr0_2 : Kd.C (Kd.int .i64) w A0_2 l0_2.length l0_2) (hc0_2 : l0_2.length ≤ c0_2) (h : impl_Block_waits.f l0_0 l0_1 l0_2 a0_3 a0_4 a1 = some r) :
  Calls Tryz.prog 86 #[.agg #[.slice A0_0 l0_0.length c0_0, .slice A0_1 l0_1.length c0_1, .slice A0_2 l0_2.length c0_2, .int .i64 a0_3, .int .i64 a0_4], .int .i64 a1] w fun e w' => e = .returned (.bool r) ∧ Below w.heap.size w w' := by
 have hu33 := Tryz.underlying33; have HR0_0 := Aside0.mk hr0_0; have HC0_0 := Aside0.mk hc0_0; clear hr0_0 hc0_0; have HR0_1 := Aside0.mk hr0_1; have HC0_1 := Aside0.mk hc0_1; clear hr0_1 hc0_1; have HR0_2 := Aside0.mk hr0_2; have HC0_2 := Aside0.mk hc0_2; clear hr0_2 hc0_2; have HB := Aside0.mk (Below.refl w.heap.size w)
 have H : (if 0 ≤ a1 then (some ((Go.bits .and .i64 (shr .i64 a0_3 a1) 1) == 1)) else (none)) = some r := h
 clear h
 obtain ⟨c3, H⟩ := ifS H; have c3b0 := eq_true c3
 have c3b1 := decide_eq_true c3
 clear c3
 obtain ⟨ji4, hji4⟩ : ∃ j_ : Int, (shr .i64 a0_3 a1) = j_ := ⟨_, rfl⟩
 (first | rw [hji4] at H | simp only [hji4] at H)
 have hji4_ : (a0_3 / 2 ^ min a1.toNat 64) = ji4 := hji4
 have hji4z : a1 ≤ 64 → (a0_3 / 2 ^ a1.toNat) = ji4 := shr_small hji4
 obtain rfl := oI H
 go_enter Tryz.func86, Tryz.ntmps86
 go_wp2_with (first | (refine bxe 2 #[.slice A0_0 l0_0.length c0_0, .slice A0_1 l0_1.length c0_1, .slice A0_2 l0_2.length c0_2, .int .i64 a0_3, .int .i64 a0_4] 33 ?_; intro gb11 hg w5 hbox hb; have BK11 := Aside0.mk (hbox); have GW11 := Aside0.mk (gwe hg : w.heap.size ≤ _); have GE11 := GW11; replace HB := hbs hb; clear hb hbox hg; obtain ⟨_, _, _, _, _, _, _, _, _, _⟩ := box5 BK11))
 go_ret
 exact ⟨by first | rfl | (simp [errW_none, errW_some] <;> rfl) | (simp only [← hji4]; first | rfl | (simp [errW_none, errW_some] <;> rfl)) | (simp [*, errW_none, errW_some] <;> rfl), bels⟩

/-! ### impl_IsLocal: function 87 -/
def impl_IsLocal.f (a0_0 : Int) (a0_1 : Int) (a0_2 : Int) (a0_3 : Int) : Option (Bool) := (impl_within.f a0_0 0 12).bind fun t12 => (some t12)
set_option maxHeartbeats 8000000 in
set_option maxRecDepth 100000 in
theorem impl_IsLocal.calls (a0_0 : Int) (a0_1 : Int) (a0_2 : Int) (a0_3 : Int) (r : Bool) (w : World) (h : impl_IsLocal.f a0_0 a0_1 a0_2 a0_3 = some r) :
  Calls Tryz.prog 87 #[.agg #[.int .i64 a0_0, .int .i64 a0_1, .int .i64 a0_2, .int .i64 a0_3]] w fun e w' => e = .returned (.bool r) ∧ Below w.heap.size w w' := by
 have hu95 := Tryz.underlying95; have HB := Aside0.mk (Below.refl w.heap.size w)
 have H : ((impl_within.f a0_0 0 12).bind fun t12 => (some t12)) = some r := h
 clear h; obtain ⟨t12, A2, H⟩ := bnd H; (try dsimp only at H); obtain rfl := oI H
 go_enter Tryz.func87, Tryz.ntmps87
 go_wp2_with (first | (refine bxe 1 #[.int .i64 a0_0, .int .i64 a0_1, .int .i64 a0_2, .int .i64 a0_3] 95 ?_; intro gb11 hg w3 hbox hb; have BK11 := Aside0.mk (hbox); have GW11 := Aside0.mk (gwe hg : w.heap.size ≤ _); have GE11 := GW11; replace HB := hbs hb; clear hb hbox hg; obtain ⟨_, _, _, _, _, _, _, _⟩ := box4 BK11) | (refine gL 70 (some 5) Tryz.func70 #[.int .i64 a0_0, .int .i64 0, .int .i64 12] ?_; (with_reducible refine (impl_within.calls a0_0 0 12 t12 _ A2.out).mono ?_); rintro e w' ⟨rfl, ⟨nd, rfl⟩⟩; refine ⟨_, rfl, ?_⟩))
 go_ret
 exact ⟨rfe, bels⟩

/-! ### impl_ActiveMask: function 129 -/
def impl_ActiveMask.f (a0_0 : Int) (l0_1 : List (S132)) (l0_2 : List Int) : Option (Int) := if (l0_1.length : Int) = 0 then (some 0) else (if 0 ≤ (wrap64 ((l0_1.length : Int) - 1)) then (if (wrap64 ((l0_1.length : Int) - 1)) < (l0_1.length : Int) then (some ((rd_T132 l0_1 (wrap64 ((l0_1.length : Int) - 1))).f2)) else (none)) else (none))
set_option maxHeartbeats 8000000 in
set_option maxRecDepth 100000 in
theorem impl_ActiveMask.calls (a0_0 : Int) (A0_1 : Option Addr) (c0_1 : Nat) (l0_1 : List (S132)) (A0_2 : Option Addr) (c0_2 : Nat) (l0_2 : List Int) (r : Int) (w : World) (hr0_1 : Kd.C k132 w A0_1 l0_1.length l0_1) (hc0_1 : l0_1.length ≤ c0_1) (hr0_2 : Kd.C (Kd.int .i64) w A0_2 l0_2.length l0_2) (hc0_2 : l0_2.length ≤ c0_2) (h : impl_ActiveMask.f a0_0 l0_1 l0_2 = some r) :
  Calls Tryz.prog 129 #[.agg #[.int .i64 a0_0, .slice A0_1 l0_1.length c0_1, .slice A0_2 l0_2.length c0_2]] w fun e w' => e = .returned (.int .i64 r) ∧ Below w.heap.size w w' := by
 have hu59 := Tryz.underlying59; have HR0_1 := Aside0.mk hr0_1; have HC0_1 := Aside0.mk hc0_1; clear hr0_1 hc0_1; have HR0_2 := Aside0.mk hr0_2; have HC0_2 := Aside0.mk hc0_2; clear hr0_2 hc0_2; have HB := Aside0.mk (Below.refl w.heap.size w)
 have H : (if (l0_1.length : Int) = 0 then (some 0) else (if 0 ≤ (wrap64 ((l0_1.length : Int) - 1)) then (if (wrap64 ((l0_1.length : Int) - 1)) < (l0_1.length : Int) then (some ((rd_T132 l0_1 (wrap64 ((l0_1.length : Int) - 1))).f2)) else (none)) else (none))) = some r := h
 clear h
 by_cases c2 : (l0_1.length : Int) = 0
 ·rw [if_pos c2] at H
  have c2b0 : ((l0_1.length : Int) == 0) = true := beq_iff_eq.mpr c2
  have c2b1 : ((l0_1.length : Int) != 0) = false := bne_eq_false_iff_eq.mpr c2
  clear c2; obtain rfl := oI H
  go_enter Tryz.func129, Tryz.ntmps129
  go_wp2_with (first | (refine bxe 1 #[.int .i64 a0_0, .slice A0_1 l0_1.length c0_1, .slice A0_2 l0_2.length c0_2] 59 ?_; intro gb11 hg w3 hbox hb; have BK11 := Aside0.mk (hbox); have GW11 := Aside0.mk (gwe hg : w.heap.size ≤ _); have GE11 := GW11; replace HB := hbs hb; clear hb hbox hg; obtain ⟨_, _, _, _, _, _⟩ := box3 BK11))
  go_ret
  exact ⟨rfe, bels⟩
 ·rw [if_neg c2] at H
  have c2b0 : ((l0_1.length : Int) == 0) = false := beq_eq_false_iff_ne.mpr c2
  have c2b1 : ((l0_1.length : Int) != 0) = true := bne_iff_ne.mpr c2
  have c2b2 : ¬ (l0_1 = []) := fun h_ => c2 (by rw [h_]; rfl)
  obtain ⟨ji5, hji5⟩ : ∃ j_ : Int, (wrap64 ((l0_1.length : Int) - 1)) = j_ := ⟨_, rfl⟩
  (first | rw [hji5] at H | simp only [hji5] at H)
  have hji5w : (IntKind.i64.wrap ((l0_1.length : Int) - 1)) = ji5 := (i64_w _).trans hji5
  obtain ⟨c6, H⟩ := ifS H
  have c6b0 := decide_eq_true c6
  clear c6
  obtain ⟨c7, H⟩ := ifS H
  have c7b0 := decide_eq_true c7
  clear c7; obtain rfl := oI H
  go_enter Tryz.func129, Tryz.ntmps129
  go_wp2_with (first | (refine bxe 1 #[.int .i64 a0_0, .slice A0_1 l0_1.length c0_1, .slice A0_2 l0_2.length c0_2] 59 ?_; intro gb11 hg w8 hbox hb; have BK11 := Aside0.mk (hbox); have GW11 := Aside0.mk (gwe hg : w.heap.size ≤ _); have GE11 := GW11; replace HB := hbs hb; clear hb hbox hg; obtain ⟨_, _, _, _, _, _⟩ := box3 BK11; have p12 : 0 ≤ ((ji5) : Int) := pq0; have q12 : (ji5) < (l0_1.length : Int) := pq0; obtain ⟨ad12, e12, hx12_0, hx12_1, hx12_2⟩ := at_T132 HR0_1.out (ji5) p12 q12; cases e12; replace hx12_0 := hxb hx12_0; replace hx12_1 := hxb hx12_1; replace hx12_2 := hxb hx12_2; replace p12 := eq_true p12; replace q12 := eq_true q12))
  go_ret
  exact ⟨by first | rfl | (simp [errW_none, errW_some] <;> rfl) | (simp only [← hji5]; first | rfl | (simp [errW_none, errW_some] <;> rfl)) | (simp [*, errW_none, errW_some] <;> rfl), bels⟩

/-! ### impl_isLane: function 195 -/
def impl_isLane.f (a0 : Int) : Option (Bool) := (impl_within.f a0 0 7).bind fun t11 => (some t11)
set_option maxHeartbeats 8000000 in
set_option maxRecDepth 100000 in
theorem impl_isLane.calls (a0 : Int) (r : Bool) (w : World) (h : impl_isLane.f a0 = some r) :
  Calls Tryz.prog 195 #[.int .i64 a0] w fun e w' => e = .returned (.bool r) ∧ Drawn0 w w' := by
 have H : ((impl_within.f a0 0 7).bind fun t11 => (some t11)) = some r := h
 clear h; obtain ⟨t11, A2, H⟩ := bnd H; (try dsimp only at H); obtain rfl := oI H
 go_enter Tryz.func195, Tryz.ntmps195
 go_wp2_with (first | (refine gL 70 (some 4) Tryz.func70 #[.int .i64 a0, .int .i64 0, .int .i64 7] ?_; (with_reducible refine (impl_within.calls a0 0 7 t11 _ A2.out).mono ?_); rintro e w' ⟨rfl, ⟨nd, rfl⟩⟩; refine ⟨_, rfl, ?_⟩))
 go_ret
 exact ⟨by first | rfl | (simp; done) | (simp [*]; done), by repeat (first | exact Drawn0.refl _ | apply Drawn0.step)⟩

/-! ### impl_HasLane: function 184 -/
def impl_HasLane.f (a0 : Int) (a1 : Int) : Option (Bool) := (impl_IsMask.f a0).bind fun t11 => (if t11 = true then ((impl_isLane.f a1).bind fun t12 => (if t12 = true then (if 0 ≤ a1 then (some ((Go.bits .and .i64 (shr .i64 a0 a1) 1) == 1)) else (none)) else (some false))) else (some false))
set_option maxHeartbeats 8000000 in
set_option maxRecDepth 100000 in
theorem impl_HasLane.calls (a0 : Int) (a1 : Int) (r : Bool) (w : World) (h : impl_HasLane.f a0 a1 = some r) :
  Calls Tryz.prog 184 #[.int .i64 a0, .int .i64 a1] w fun e w' => e = .returned (.bool r) ∧ Drawn0 w w' := by
 have H : ((impl_IsMask.f a0).bind fun t11 => (if t11 = true then ((impl_isLane.f a1).bind fun t12 => (if t12 = true then (if 0 ≤ a1 then (some ((Go.bits .and .i64 (shr .i64 a0 a1) 1) == 1)) else (none)) else (some false))) else (some false))) = some r := h
 clear h; obtain ⟨t11, A3, H⟩ := bnd H; (try dsimp only at H)
 by_cases c4 : t11 = true
 ·subst c4; rw [if_pos rfl] at H; obtain ⟨t12, A5, H⟩ := bnd H; (try dsimp only at H)
  by_cases c6 : t12 = true
  ·subst c6; rw [if_pos rfl] at H
   obtain ⟨c7, H⟩ := ifS H; have c7b0 := eq_true c7
   have c7b1 := decide_eq_true c7
   clear c7
   obtain ⟨ji8, hji8⟩ : ∃ j_ : Int, (shr .i64 a0 a1) = j_ := ⟨_, rfl⟩
   (first | rw [hji8] at H | simp only [hji8] at H)
   (try rw [hji8] at A3)
   (try rw [hji8] at A5)
   have hji8_ : (a0 / 2 ^ min a1.toNat 64) = ji8 := hji8
   have hji8z : a1 ≤ 64 → (a0 / 2 ^ a1.toNat) = ji8 := shr_small hji8
   obtain rfl := oI H
   go_enter Tryz.func184, Tryz.ntmps184
   go_wp2_with (first | (refine gL 146 (some 6) Tryz.func146 #[.int .i64 a0] ?_; (with_reducible refine (impl_IsMask.calls a0 true _ A3.out).mono ?_); rintro e w' ⟨rfl, ⟨nd, rfl⟩⟩; refine ⟨_, rfl, ?_⟩) | (go_at_call 195; (with_reducible refine (impl_isLane.calls a1 true _ A5.out).mono ?_); rintro e w' ⟨rfl, ⟨nd, rfl⟩⟩))
   go_ret
   exact ⟨by first | rfl | (simp; done) | (simp only [← hji8] <;> (first | rfl | simp)) | (simp [*]; done), by repeat (first | exact Drawn0.refl _ | apply Drawn0.step)⟩
  ·replace c6 := Bool.eq_false_iff.mpr c6; subst c6; rw [if_neg (by decide)] at H; obtain rfl := oI H
   go_enter Tryz.func184, Tryz.ntmps184
   go_wp2_with (first | (refine gL 146 (some 6) Tryz.func146 #[.int .i64 a0] ?_; (with_reducible refine (impl_IsMask.calls a0 true _ A3.out).mono ?_); rintro e w' ⟨rfl, ⟨nd, rfl⟩⟩; refine ⟨_, rfl, ?_⟩) | (go_at_call 195; (with_reducible refine (impl_isLane.calls a1 false _ A5.out).mono ?_); rintro e w' ⟨rfl, ⟨nd, rfl⟩⟩))
   go_ret
   exact ⟨by first | rfl | (simp; done) | (simp [*]; done), by repeat (first | exact Drawn0.refl _ | apply Drawn0.step)⟩
 ·replace c4 := Bool.eq_false_iff.mpr c4; subst c4; rw [if_neg (by decide)] at H; obtain rfl := oI H
  go_enter Tryz.func184, Tryz.ntmps184
  go_wp2_with (first | (refine gL 146 (some 6) Tryz.func146 #[.int .i64 a0] ?_; (with_reducible refine (impl_IsMask.calls a0 false _ A3.out).mono ?_); rintro e w' ⟨rfl, ⟨nd, rfl⟩⟩; refine ⟨_, rfl, ?_⟩))
  go_ret
  exact ⟨by first | rfl | (simp; done) | (simp [*]; done), by repeat (first | exact Drawn0.refl _ | apply Drawn0.step)⟩

/-! ### impl_LanesOf: function 158 -/
def impl_LanesOf.l0 : Nat → Int → List Int → Int → Option (List Int)
 | 0, _, _, _ => none
 | k + 1, x0, x3, x6 => if x6 < 8 then ((impl_HasLane.f x0 x6).bind fun t14 => (if t14 = true then (if x3.length < 17592186044416 then (impl_LanesOf.l0 k x0 (x3 ++ [x6]) (wrap64 (x6 + 1))) else (none)) else (impl_LanesOf.l0 k x0 x3 (wrap64 (x6 + 1))))) else (some x3)
def impl_LanesOf.f (k : Nat) (a0 : Int) : Option (List Int) := impl_LanesOf.l0 k a0 (([] : List Int)) 0
set_option maxHeartbeats 8000000 in
set_option maxRecDepth 100000 in
theorem impl_LanesOf.calls (k : Nat) (a0 : Int) (r : List Int) (w : World) (h : impl_LanesOf.f k a0 = some r) :
  Calls Tryz.prog 158 #[.int .i64 a0] w fun e w' => ∃ v0_ : Value, e = .returned (v0_) ∧ Kd.R (Kd.int .i64) 3 w' w.heap.size (fun _ => True) v0_ r ∧ Below w.heap.size w w' := by
 have HB := Aside0.mk (Below.refl w.heap.size w)
 have H : (impl_LanesOf.l0 k a0 (([] : List Int)) 0) = some r := h
 clear h
 obtain ⟨y11, hy11⟩ := exE (α := List Int) (([] : List Int)); (first | with_reducible replace H := nmZ hy11 H | rw [← hy11] at H); (try dsimp only at H); have Ny11 := Aside0.mk hy11; clear hy11
 have H' := Aside0.mk H
 clear H
 go_enter Tryz.func158, Tryz.ntmps158
 go_wp2_with (first | ((with_reducible refine gate_dst (N := 5) rfl ?_); refine Kd.R_lit (Kd.int .i64) _ 3 ?hg (N := 5) ?hd (xs := ([] : List Int)) (inner := []) (ok := fun _ => True) (okp := fun _ => True) ?hr ?hp (fun _ hk => hk) trivial (Below.refl _ _) (Nat.le_refl _) (by simp) ?_; (case hd => rfl); (case hg => rfl); (case hr => exact gs); (case hp => exact (Reps.none _ _)); intro v12 w2 ho3 hb hg_ hnew_; clear hg_ hnew_; (first | rw [← Ny11.out] at ho3 | (simp only [Int.reduceToNat] at ho3; rw [← Ny11.out] at ho3)); have HO13 := Aside0.mk (Kd.R_lower ho3 (below_size bels)); replace HB := hbs hb; clear hb ho3))
 go_loopg [3, 6] k (fun kq v3 v6 w' => ∃ (x3_1 : List Int) (x6_1 : Int), v6 = .int .i64 x6_1 ∧ Aside0 (impl_LanesOf.l0 kq a0 x3_1 x6_1 = some r) ∧ Aside0 (kq ≤ k) ∧ Aside0 (Kd.R (Kd.int .i64) 3 w' w.heap.size (fun _ => True) v3 x3_1) ∧ Aside0 (Below w.heap.size w w'))
 case atStart => exact ⟨(y11), (0), rfx, H', ⟨Nat.le_refl _⟩, ⟨by (with_reducible repeat (first | apply Kd.R_alloc | apply Kd.R_drewN | apply Kd.R_drew)); exact HO13.out⟩, ⟨bels⟩⟩
 case round =>
  clear H'
  try clear c1
  try clear p2
  obtain ⟨x3_1, x6_1, rfl, HA, HK1, HO_3, HB⟩ := hrel
  cases gk with
  | zero => exact absurd HA.out (by simp [impl_LanesOf.l0])
  | succ k1 =>
   have H := HA.out; clear HA
   simp only [impl_LanesOf.l0] at H
   by_cases c4 : x6_1 < 8
   ·rw [if_pos c4] at H
    have c4b0 := decide_eq_true c4
    clear c4; obtain ⟨t14, A5, H⟩ := bnd H; (try dsimp only at H)
    by_cases c6 : t14 = true
    ·subst c6; rw [if_pos rfl] at H
     obtain ⟨c7, H⟩ := ifS H; have LMc7 := Aside0.mk c7; clear c7
     obtain ⟨y15, hy15⟩ := exE (α := List Int) (x3_1 ++ [x6_1]); (first | with_reducible replace H := nmZ hy15 H | rw [← hy15] at H); (try dsimp only at H); have Ny15 := Aside0.mk hy15; clear hy15
     have H' := Aside0.mk H
     clear H
     go_wp2_with (first | (refine gL 184 (some 11) Tryz.func184 #[.int .i64 a0, .int .i64 x6_1] ?_; (with_reducible refine (impl_HasLane.calls a0 x6_1 true _ A5.out).mono ?_); rintro e w' ⟨rfl, ⟨nd, rfl⟩⟩; refine ⟨_, rfl, ?_⟩) | ((with_reducible refine gate_builtin (b := .append) (xs := #[.tmp 12, .tmp 14]) rfl ?_); at_builtin; refine Kd.R_append (Kd.int .i64) (w0 := w) w.heap.size rfl (.tmp 12) (.tmp 14) 24 3 (.int .i64 0) 8 rfl Tryz.underlying24 info3 rfl (by decide) (by omega) u3 x3_1 x6_1 [.int .i64 x6_1] (fun _ => True) (fun _ => False) rfl rfl ?aP (fun _ hk => hk.elim) ?aF ?aO ?aB ?aS ?aL ?_; (case aP => exact rfl); (case aB => exact bels); (case aF => exact (fun _ _ => trivial)); (case aO => exact (raR HO_3)); (case aS => exact (below_size bels)); (case aL => have := LMc7.out; omega); intro v16 w8 ho hb hg hat; rw [← Ny15.out] at ho; have HO17 := Aside0.mk (ho); replace HB := Aside0.mk (hb); clear HO_3; clear ho hb hg hat))
     go_roundg k1
     case measure => have := HK1.out; omega
     case rel => exact ⟨(y15), (wrap64 (x6_1 + 1)), rfx, H', ⟨by have := HK1.out; omega⟩, ⟨by (with_reducible repeat (first | apply Kd.R_alloc | apply Kd.R_drewN | apply Kd.R_drew)); exact HO17.out⟩, ⟨bels⟩⟩
    ·replace c6 := Bool.eq_false_iff.mpr c6; subst c6; rw [if_neg (by decide)] at H
     have H' := Aside0.mk H
     clear H
     go_wp2_with (first | (refine gL 184 (some 11) Tryz.func184 #[.int .i64 a0, .int .i64 x6_1] ?_; (with_reducible refine (impl_HasLane.calls a0 x6_1 false _ A5.out).mono ?_); rintro e w' ⟨rfl, ⟨nd, rfl⟩⟩; refine ⟨_, rfl, ?_⟩))
     go_roundg k1
     case measure => have := HK1.out; omega
     case rel => exact ⟨(x3_1), (wrap64 (x6_1 + 1)), rfx, H', ⟨by have := HK1.out; omega⟩, ⟨by (with_reducible repeat (first | apply Kd.R_alloc | apply Kd.R_drewN | apply Kd.R_drew)); exact HO_3.out⟩, ⟨bels⟩⟩
   ·rw [if_neg c4] at H
    have c4b0 := decide_eq_false c4
    clear c4; obtain rfl := oI H
    go_wp2
    go_ret
    exact ⟨_, rfe, by (with_reducible repeat (first | apply Kd.R_alloc | apply Kd.R_drewN | apply Kd.R_drew)); exact HO_3.out, bels⟩

end Go.Proofs.YtmnkbchieplicaaGreatDoor.Q
