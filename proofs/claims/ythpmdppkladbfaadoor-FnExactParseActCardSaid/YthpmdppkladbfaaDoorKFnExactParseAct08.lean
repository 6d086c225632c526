/- impl.FormatAct. -/
import Derived.Test.YthpmdppkladbfaaDoorKFnExactParseAct07
namespace Go.Proofs.YthpmdppkladbfaaDoor.Q
open Go Go.RowKit Go.Proofs.YthpmdppkladbfaaDoorW.PrintWords Go.Proofs.YthpmdppkladbfaaDoorW.PrintLast Go.Proofs.YthpmdppkladbfaaDoorW.PrintMore
set_option linter.unusedVariables false
set_option linter.unusedSimpArgs false

def namesL : List ByteArray := [⟨#[]⟩, ⟨#[115, 116, 101, 112]⟩, ⟨#[112, 105, 99, 107]⟩, ⟨#[102, 105, 110, 105, 115, 104]⟩, ⟨#[112, 111, 107, 101]⟩]
def nameK (k : Int) : ByteArray := rdOf ByteArray.empty namesL k
theorem actNames_at (k : Int) (h0 : 0 ≤ k) (h1 : k < 5) (w : World) : Calls Tryd.prog 20 #[] w fun e w' => ∃ (A : Addr) (c : Nat), e = .returned (.slice (some A) 5 c) ∧ w'.cell? (A.add k.toNat) = some (.string (nameK k)) ∧ Below w.heap.size w w' := by
  refine (impl_actNames.calls namesL w rfl).mono ?_
  rintro e w1 ⟨v, rfl, hr, hb⟩
  obtain ⟨Ao, co, rfl⟩ := Kd.R_slice hr
  obtain ⟨ad, e1, hx⟩ := Kd.at_string (Kd.R_reads' hr).2.2 k h0 h1
  cases e1
  exact ⟨ad, co, rfl, hx, hb⟩
theorem nameK_size (k : Int) (h : k = 1 ∨ k = 2 ∨ k = 3 ∨ k = 4) : (nameK k).size ≤ 6 := by
  rcases h with rfl | rfl | rfl | rfl <;> decide
def actB (k a b : Int) : ByteArray := if k = 3 then (nameK k ++ ⟨#[32]⟩) ++ decB a else ((nameK k ++ ⟨#[32]⟩) ++ decB a) ++ (⟨#[32]⟩ ++ decB b)
theorem actOk_bounds {k a b : Int} (h : impl_ActOk.f k a b = some true) : (k = 1 ∨ k = 2 ∨ k = 3 ∨ k = 4) ∧ (0 ≤ a ∧ a ≤ 65535) ∧ (0 ≤ b ∧ b ≤ 65535) := by
  unfold impl_ActOk.f impl_isStride.f impl_IsWord.f at h
  simp only [within_f, Option.bind_some] at h
  by_cases c1 : k = 1
  · rw [if_pos c1] at h
    by_cases g : inR 0 2 a = true
    · rw [if_pos g] at h
      have g2 := Option.some.inj h
      rw [inR_iff] at g g2; omega
    · rw [if_neg g] at h; simp at h
  · rw [if_neg c1] at h
    by_cases c2 : k = 2
    · rw [if_pos c2] at h
      by_cases g : inR 0 1000 a = true
      · rw [if_pos g] at h
        have g2 := Option.some.inj h
        rw [inR_iff] at g g2; omega
      · rw [if_neg g] at h; simp at h
    · rw [if_neg c2] at h
      by_cases c3 : k = 3
      · rw [if_pos c3] at h
        by_cases g : inR 0 100 a = true
        · rw [if_pos g] at h
          have g2 := Option.some.inj h
          rw [beq_iff_eq] at g2
          rw [inR_iff] at g; omega
        · rw [if_neg g] at h; simp at h
      · rw [if_neg c3] at h
        by_cases c4 : k = 4
        · rw [if_pos c4] at h
          by_cases g : inR 0 31 a = true
          · rw [if_pos g] at h
            have g2 := Option.some.inj h
            rw [inR_iff] at g g2; omega
          · rw [if_neg g] at h; simp at h
        · rw [if_neg c4] at h; simp at h
def impl_FormatAct.f (k a b : Int) : Option (ByteArray × Bool) := (impl_ActOk.f k a b).bind fun t => if t = true then some (actB k a b, true) else some (⟨#[]⟩, false)
set_option maxHeartbeats 2000000 in
set_option maxRecDepth 100000 in
theorem impl_FormatAct.calls (a0_0 : Int) (a0_1 : Int) (a0_2 : Int) (r1 : ByteArray) (r2 : Bool) (w : World) (h : impl_FormatAct.f a0_0 a0_1 a0_2 = some (r1, r2)) (htab : PowIs w := by (apply PowIs.on; (refine Aside0.out ?_; assumption); repeat (first | (refine Aside0.out ?_; assumption) | apply below_alloc | apply pw_below_drewN | apply below_drew1 | (refine below_set ?_ (Aside0.out (by assumption)))))) :
    Calls Tryd.prog 8 #[.agg #[.int .i64 a0_0, .int .i64 a0_1, .int .i64 a0_2]] w fun e w' => e = .returned (.tuple #[.string r1, .bool r2]) ∧ Below w.heap.size w w' := by
  have HT : Aside0 (PowIs w) := ⟨htab⟩
  have hu26 := Tryd.underlying26
  have HB := Aside0.mk (Below.refl w.heap.size w)
  clear htab
  replace h := Option.bind_eq_some_iff.mp h
  obtain ⟨t, ht, h⟩ := h
  have HO := Aside0.mk ht
  cases t with
  | false =>
    rw [if_neg (by simp)] at h
    simp only [Option.some.injEq, Prod.mk.injEq] at h
    obtain ⟨rfl, rfl⟩ := h
    clear ht
    go_enter Tryd.func8, Tryd.ntmps8
    go_wp2_with (first
      | ((with_reducible refine gate_dst (N := 1) rfl ?_); refine box_event ?hg (N := 1) ?hd (cs := #[.int .i64 a0_0, .int .i64 a0_1, .int .i64 a0_2]) (t := 26) ?hr ?_; (case hd => rfl); (case hg => rfl); (case hr => first | (go_simp; done) | (go_simp; rfl)); intro gb135 hg w11 hbox hb; have n0_ := Aside0.mk (below_step (by repeat (first | (with_reducible first | exact HB.out | apply below_alloc | apply pw_below_drewN | apply below_drew1) | exact HB.out)) hb); have n1_ := Aside0.mk (hbox); clear HB; have HB := n0_; have BK135 := n1_; clear n0_ n1_; clear hb hbox hg; have hcz12_0 : w11.cell? ⟨gb135, 0, none⟩ = some (.int .i64 a0_0) := (blk_cell BK135.out 0).trans rfl; have hcz12_1 : w11.cell? ⟨gb135, 1, none⟩ = some (.int .i64 a0_1) := (blk_cell BK135.out 1).trans rfl; have hcz12_2 : w11.cell? ⟨gb135, 2, none⟩ = some (.int .i64 a0_2) := (blk_cell BK135.out 2).trans rfl; have hfz12_0 := blk_frozen BK135.out 0; have hfz12_1 := blk_frozen BK135.out 1; have hfz12_2 := blk_frozen BK135.out 2)
      | ((with_reducible refine gate_callee (f := 19) rfl ?_); refine goesL_ (some 6) rfl rfl Tryd.func19 (by kernel_rfl) rfl #[.agg #[.int .i64 a0_0, .int .i64 a0_1, .int .i64 a0_2]] rfl (by (try simp only [List.map_toArray, List.map_cons, List.map_nil]); first | done | rfl | (simp only [List.length_drop, List.length_take]; rfl)) ?_; (with_reducible refine (impl_ActOk.calls a0_0 a0_1 a0_2 false _ HO.out).mono ?_); rintro e w13 ⟨rfl, hb⟩; refine ⟨_, rfl, ?_⟩; have n1_ := Aside0.mk (below_step (by repeat (first | (with_reducible first | exact HB.out | apply below_alloc | apply pw_below_drewN | apply below_drew1) | exact HB.out)) hb); clear HB; have HB := n1_; clear n1_; clear hb))
    go_ret2
    exact ⟨rfl, by repeat (first | (with_reducible first | exact HB.out | apply below_alloc | apply pw_below_drewN | apply below_drew1) | exact HB.out)⟩
  | true =>
    rw [if_pos rfl] at h
    simp only [Option.some.injEq, Prod.mk.injEq] at h
    obtain ⟨rfl, rfl⟩ := h
    obtain ⟨hk, ha, hb0⟩ := actOk_bounds ht
    have HKK := Aside0.mk hk
    have HN := Aside0.mk (fun W => actNames_at a0_0 (by omega) (by omega) W)
    have HC := Aside0.mk (fun W (hh : PowIs W) => impl_FormatInt.calls a0_1 (decB a0_1) W (by unfold impl_FormatInt.f; rw [if_pos (by omega)]; rfl) hh)
    have HD := Aside0.mk (fun W (hh : PowIs W) => impl_FormatInt.calls a0_2 (decB a0_2) W (by unfold impl_FormatInt.f; rw [if_pos (by omega)]; rfl) hh)
    have z0 := nameK_size a0_0 hk
    have z1 := decB_size a0_1 ha.1 (by omega)
    have z2 := decB_size a0_2 hb0.1 (by omega)
    have p0 : decide (0 ≤ a0_0) = true := decide_eq_true (by omega)
    have p1 : decide (a0_0 < 5) = true := decide_eq_true (by omega)
    have q1 : (9223372036854775807 < (nameK a0_0).size + 1) = False := eq_false (by omega)
    have q2 : (9223372036854775807 < (nameK a0_0).size + 1 + (decB a0_1).size) = False := eq_false (by omega)
    have q3 : (9223372036854775807 < 1 + (decB a0_2).size) = False := eq_false (by omega)
    have q4 : (9223372036854775807 < (nameK a0_0).size + 1 + (decB a0_1).size + (1 + (decB a0_2).size)) = False := eq_false (by omega)
    have p0' := eq_true (show 0 ≤ a0_0 by omega)
    have p1' := eq_true (show a0_0 < 5 by omega)
    clear hk ha hb0 z0 z1 z2 ht
    by_cases hk3 : a0_0 = 3
    · have g1 : (a0_0 != 3) = false := bne_eq_false_iff_eq.mpr hk3
      have HE := Aside0.mk (show actB a0_0 a0_1 a0_2 = (nameK a0_0 ++ ⟨#[32]⟩) ++ decB a0_1 by unfold actB; rw [if_pos hk3])
      clear hk3
      go_enter Tryd.func8, Tryd.ntmps8
      try go_wp2_with (first
        | ((with_reducible refine gate_dst (N := 1) rfl ?_); refine box_event ?hg (N := 1) ?hd (cs := #[.int .i64 a0_0, .int .i64 a0_1, .int .i64 a0_2]) (t := 26) ?hr ?_; (case hd => rfl); (case hg => rfl); (case hr => first | (go_simp; done) | (go_simp; rfl)); intro gb135 hg w11 hbox hb; have n0_ := Aside0.mk (below_step (by repeat (first | (with_reducible first | exact HB.out | apply below_alloc | apply pw_below_drewN | apply below_drew1) | exact HB.out)) hb); have n1_ := Aside0.mk (hbox); clear HB; have HB := n0_; have BK135 := n1_; clear n0_ n1_; clear hb hbox hg; have hcz12_0 : w11.cell? ⟨gb135, 0, none⟩ = some (.int .i64 a0_0) := (blk_cell BK135.out 0).trans rfl; have hcz12_1 : w11.cell? ⟨gb135, 1, none⟩ = some (.int .i64 a0_1) := (blk_cell BK135.out 1).trans rfl; have hcz12_2 : w11.cell? ⟨gb135, 2, none⟩ = some (.int .i64 a0_2) := (blk_cell BK135.out 2).trans rfl; have hfz12_0 := blk_frozen BK135.out 0; have hfz12_1 := blk_frozen BK135.out 1; have hfz12_2 := blk_frozen BK135.out 2)
        | ((with_reducible refine gate_callee (f := 19) rfl ?_); refine goesL_ (some 6) rfl rfl Tryd.func19 (by kernel_rfl) rfl #[.agg #[.int .i64 a0_0, .int .i64 a0_1, .int .i64 a0_2]] rfl (by (try simp only [List.map_toArray, List.map_cons, List.map_nil]); first | done | rfl | (simp only [List.length_drop, List.length_take]; rfl)) ?_; (with_reducible refine (impl_ActOk.calls a0_0 a0_1 a0_2 true _ HO.out).mono ?_); rintro e w13 ⟨rfl, hb⟩; refine ⟨_, rfl, ?_⟩; have n0_ := Aside0.mk (blk_below (g := gb135) (o := .cells #[.int .i64 a0_0, .int .i64 a0_1, .int .i64 a0_2] 26 (0, 0)) (by (with_reducible repeat (first | refine blk_drewN ?_ _ | refine blk_drew ?_ | refine blk_alloc ?_ _)); exact BK135.out) hb); have n1_ := Aside0.mk (below_step (by repeat (first | (with_reducible first | exact HB.out | apply below_alloc | apply pw_below_drewN | apply below_drew1) | exact HB.out)) hb); clear HB BK135; have HB := n1_; have BK135 := n0_; clear n0_ n1_; clear hb; have hcz13_0 : w13.cell? ⟨gb135, 0, none⟩ = some (.int .i64 a0_0) := (blk_cell BK135.out 0).trans rfl; have hcz13_1 : w13.cell? ⟨gb135, 1, none⟩ = some (.int .i64 a0_1) := (blk_cell BK135.out 1).trans rfl; have hcz13_2 : w13.cell? ⟨gb135, 2, none⟩ = some (.int .i64 a0_2) := (blk_cell BK135.out 2).trans rfl; have hfz13_0 := blk_frozen BK135.out 0; have hfz13_1 := blk_frozen BK135.out 1; have hfz13_2 := blk_frozen BK135.out 2))
      go_region_with (first
        | (go_at_call 20; refine (HN.out _).mono ?_; rintro e w15 ⟨A15, c15, rfl, hx15, hb⟩; have n0_ := Aside0.mk (blk_below (g := gb135) (o := .cells #[.int .i64 a0_0, .int .i64 a0_1, .int .i64 a0_2] 26 (0, 0)) (by (with_reducible repeat (first | refine blk_drewN ?_ _ | refine blk_drew ?_ | refine blk_alloc ?_ _)); exact BK135.out) hb); have n1_ := Aside0.mk (below_step (by repeat (first | (with_reducible first | exact HB.out | apply below_alloc | apply pw_below_drewN | apply below_drew1) | exact HB.out)) hb); clear HB BK135; have HB := n1_; have BK135 := n0_; clear n0_ n1_; clear hb; have hcw15_0 : w15.cell? ⟨gb135, 0, none⟩ = some (.int .i64 a0_0) := (blk_cell BK135.out 0).trans rfl; have hcw15_1 : w15.cell? ⟨gb135, 1, none⟩ = some (.int .i64 a0_1) := (blk_cell BK135.out 1).trans rfl; have hcw15_2 : w15.cell? ⟨gb135, 2, none⟩ = some (.int .i64 a0_2) := (blk_cell BK135.out 2).trans rfl; have hfw15_0 := blk_frozen BK135.out 0; have hfw15_1 := blk_frozen BK135.out 1; have hfw15_2 := blk_frozen BK135.out 2)
        | (go_at_call 21; refine (HC.out _ (PowIs.on HT.out (by repeat (first | (with_reducible first | exact HB.out | apply below_alloc | apply pw_below_drewN | apply below_drew1) | exact HB.out)))).mono ?_; rintro e w17 ⟨rfl, hb⟩; have hx17 := (hb.cell (World.block_lt_of_cell? _ _ hx15)).trans hx15; have n0_ := Aside0.mk (blk_below (g := gb135) (o := .cells #[.int .i64 a0_0, .int .i64 a0_1, .int .i64 a0_2] 26 (0, 0)) (by (with_reducible repeat (first | refine blk_drewN ?_ _ | refine blk_drew ?_ | refine blk_alloc ?_ _)); exact BK135.out) hb); have n1_ := Aside0.mk (below_step (by repeat (first | (with_reducible first | exact HB.out | apply below_alloc | apply pw_below_drewN | apply below_drew1) | exact HB.out)) hb); clear HB BK135; have HB := n1_; have BK135 := n0_; clear n0_ n1_; clear hb; have hcw17_0 : w17.cell? ⟨gb135, 0, none⟩ = some (.int .i64 a0_0) := (blk_cell BK135.out 0).trans rfl; have hcw17_1 : w17.cell? ⟨gb135, 1, none⟩ = some (.int .i64 a0_1) := (blk_cell BK135.out 1).trans rfl; have hcw17_2 : w17.cell? ⟨gb135, 2, none⟩ = some (.int .i64 a0_2) := (blk_cell BK135.out 2).trans rfl; have hfw17_0 := blk_frozen BK135.out 0; have hfw17_1 := blk_frozen BK135.out 1; have hfw17_2 := blk_frozen BK135.out 2))
      all_goals go_wp2_with fail
      all_goals go_ret2
      all_goals exact ⟨by rw [HE.out]; rfl, by repeat (first | (with_reducible first | exact HB.out | apply below_alloc | apply pw_below_drewN | apply below_drew1) | exact HB.out)⟩
    · have g1 : (a0_0 != 3) = true := bne_iff_ne.mpr hk3
      have HE := Aside0.mk (show actB a0_0 a0_1 a0_2 = ((nameK a0_0 ++ ⟨#[32]⟩) ++ decB a0_1) ++ (⟨#[32]⟩ ++ decB a0_2) by unfold actB; rw [if_neg hk3])
      clear hk3
      go_enter Tryd.func8, Tryd.ntmps8
      try go_wp2_with (first
        | ((with_reducible refine gate_dst (N := 1) rfl ?_); refine box_event ?hg (N := 1) ?hd (cs := #[.int .i64 a0_0, .int .i64 a0_1, .int .i64 a0_2]) (t := 26) ?hr ?_; (case hd => rfl); (case hg => rfl); (case hr => first | (go_simp; done) | (go_simp; rfl)); intro gb135 hg w11 hbox hb; have n0_ := Aside0.mk (below_step (by repeat (first | (with_reducible first | exact HB.out | apply below_alloc | apply pw_below_drewN | apply below_drew1) | exact HB.out)) hb); have n1_ := Aside0.mk (hbox); clear HB; have HB := n0_; have BK135 := n1_; clear n0_ n1_; clear hb hbox hg; have hcz12_0 : w11.cell? ⟨gb135, 0, none⟩ = some (.int .i64 a0_0) := (blk_cell BK135.out 0).trans rfl; have hcz12_1 : w11.cell? ⟨gb135, 1, none⟩ = some (.int .i64 a0_1) := (blk_cell BK135.out 1).trans rfl; have hcz12_2 : w11.cell? ⟨gb135, 2, none⟩ = some (.int .i64 a0_2) := (blk_cell BK135.out 2).trans rfl; have hfz12_0 := blk_frozen BK135.out 0; have hfz12_1 := blk_frozen BK135.out 1; have hfz12_2 := blk_frozen BK135.out 2)
        | ((with_reducible refine gate_callee (f := 19) rfl ?_); refine goesL_ (some 6) rfl rfl Tryd.func19 (by kernel_rfl) rfl #[.agg #[.int .i64 a0_0, .int .i64 a0_1, .int .i64 a0_2]] rfl (by (try simp only [List.map_toArray, List.map_cons, List.map_nil]); first | done | rfl | (simp only [List.length_drop, List.length_take]; rfl)) ?_; (with_reducible refine (impl_ActOk.calls a0_0 a0_1 a0_2 true _ HO.out).mono ?_); rintro e w13 ⟨rfl, hb⟩; refine ⟨_, rfl, ?_⟩; have n0_ := Aside0.mk (blk_below (g := gb135) (o := .cells #[.int .i64 a0_0, .int .i64 a0_1, .int .i64 a0_2] 26 (0, 0)) (by (with_reducible repeat (first | refine blk_drewN ?_ _ | refine blk_drew ?_ | refine blk_alloc ?_ _)); exact BK135.out) hb); have n1_ := Aside0.mk (below_step (by repeat (first | (with_reducible first | exact HB.out | apply below_alloc | apply pw_below_drewN | apply below_drew1) | exact HB.out)) hb); clear HB BK135; have HB := n1_; have BK135 := n0_; clear n0_ n1_; clear hb; have hcz13_0 : w13.cell? ⟨gb135, 0, none⟩ = some (.int .i64 a0_0) := (blk_cell BK135.out 0).trans rfl; have hcz13_1 : w13.cell? ⟨gb135, 1, none⟩ = some (.int .i64 a0_1) := (blk_cell BK135.out 1).trans rfl; have hcz13_2 : w13.cell? ⟨gb135, 2, none⟩ = some (.int .i64 a0_2) := (blk_cell BK135.out 2).trans rfl; have hfz13_0 := blk_frozen BK135.out 0; have hfz13_1 := blk_frozen BK135.out 1; have hfz13_2 := blk_frozen BK135.out 2))
      go_region_with (first
        | (go_at_call 20; refine (HN.out _).mono ?_; rintro e w15 ⟨A15, c15, rfl, hx15, hb⟩; have n0_ := Aside0.mk (blk_below (g := gb135) (o := .cells #[.int .i64 a0_0, .int .i64 a0_1, .int .i64 a0_2] 26 (0, 0)) (by (with_reducible repeat (first | refine blk_drewN ?_ _ | refine blk_drew ?_ | refine blk_alloc ?_ _)); exact BK135.out) hb); have n1_ := Aside0.mk (below_step (by repeat (first | (with_reducible first | exact HB.out | apply below_alloc | apply pw_below_drewN | apply below_drew1) | exact HB.out)) hb); clear HB BK135; have HB := n1_; have BK135 := n0_; clear n0_ n1_; clear hb; have hcw15_0 : w15.cell? ⟨gb135, 0, none⟩ = some (.int .i64 a0_0) := (blk_cell BK135.out 0).trans rfl; have hcw15_1 : w15.cell? ⟨gb135, 1, none⟩ = some (.int .i64 a0_1) := (blk_cell BK135.out 1).trans rfl; have hcw15_2 : w15.cell? ⟨gb135, 2, none⟩ = some (.int .i64 a0_2) := (blk_cell BK135.out 2).trans rfl; have hfw15_0 := blk_frozen BK135.out 0; have hfw15_1 := blk_frozen BK135.out 1; have hfw15_2 := blk_frozen BK135.out 2)
        | (go_at_call 21; refine (HC.out _ (PowIs.on HT.out (by repeat (first | (with_reducible first | exact HB.out | apply below_alloc | apply pw_below_drewN | apply below_drew1) | exact HB.out)))).mono ?_; rintro e w17 ⟨rfl, hb⟩; have hx17 := (hb.cell (World.block_lt_of_cell? _ _ hx15)).trans hx15; have n0_ := Aside0.mk (blk_below (g := gb135) (o := .cells #[.int .i64 a0_0, .int .i64 a0_1, .int .i64 a0_2] 26 (0, 0)) (by (with_reducible repeat (first | refine blk_drewN ?_ _ | refine blk_drew ?_ | refine blk_alloc ?_ _)); exact BK135.out) hb); have n1_ := Aside0.mk (below_step (by repeat (first | (with_reducible first | exact HB.out | apply below_alloc | apply pw_below_drewN | apply below_drew1) | exact HB.out)) hb); clear HB BK135; have HB := n1_; have BK135 := n0_; clear n0_ n1_; clear hb; have hcw17_0 : w17.cell? ⟨gb135, 0, none⟩ = some (.int .i64 a0_0) := (blk_cell BK135.out 0).trans rfl; have hcw17_1 : w17.cell? ⟨gb135, 1, none⟩ = some (.int .i64 a0_1) := (blk_cell BK135.out 1).trans rfl; have hcw17_2 : w17.cell? ⟨gb135, 2, none⟩ = some (.int .i64 a0_2) := (blk_cell BK135.out 2).trans rfl; have hfw17_0 := blk_frozen BK135.out 0; have hfw17_1 := blk_frozen BK135.out 1; have hfw17_2 := blk_frozen BK135.out 2))
      all_goals go_wp2_with (first
      | ((with_reducible refine gate_callee (f := 21) rfl ?_); refine goesL_ (some 24) rfl rfl Tryd.func21 (by kernel_rfl) rfl #[.int .i64 a0_2] rfl (by (try simp only [List.map_toArray, List.map_cons, List.map_nil]); first | done | rfl | (simp only [List.length_drop, List.length_take]; rfl)) ?_; refine (HD.out _ (PowIs.on HT.out (by repeat (first | (with_reducible first | exact HB.out | apply below_alloc | apply pw_below_drewN | apply below_drew1) | exact HB.out)))).mono ?_; rintro e w19 ⟨rfl, hb⟩; refine ⟨_, rfl, ?_⟩; have n1_ := Aside0.mk (below_step (by repeat (first | (with_reducible first | exact HB.out | apply below_alloc | apply pw_below_drewN | apply below_drew1) | exact HB.out)) hb); clear HB; have HB := n1_; clear n1_; clear hb))
      all_goals go_ret2
      all_goals exact ⟨by rw [HE.out]; rfl, by repeat (first | (with_reducible first | exact HB.out | apply below_alloc | apply pw_below_drewN | apply below_drew1) | exact HB.out)⟩

end Go.Proofs.YthpmdppkladbfaaDoor.Q
