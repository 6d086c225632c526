/- laws.FnExactFormatBlock: what it comes to where both answer the same. -/
import Derived.Test.YtmnkbchieplicaaGreatDoorKFnExactFormatBlock34
namespace Go.Proofs.YtmnkbchieplicaaGreatDoor.Q
open Go Go.RowKit Go.Proofs.YtmnkbchieplicaaGreatDoorW.PrintWords Go.Proofs.YtmnkbchieplicaaGreatDoorW.PrintLast Go.Proofs.YtmnkbchieplicaaGreatDoorW.PrintMore
set_option linter.unusedVariables false
set_option linter.unusedSimpArgs false

/-- The block x is small, and its rows are few. -/
def fewB (x : MBlk) : Prop := 4 * (x.f0.length : Int) + (marksW x.f1 : Int) + (x.f2.length : Int) ≤ 9000000000000 ∧ x.f0.length ≤ 1048576 ∧ x.f1.length ≤ 1048576 ∧ x.f2.length ≤ 1048576 ∧ ∀ i, i < x.f1.length → (x.f1.getD i z59).f1.length ≤ 1048576 ∧ (x.f1.getD i z59).f2.length ≤ 1048576
noncomputable def laws_FnExactFormatBlock.f (k : Nat) (l0 : List S97) (l1 : List S87) (l2 : List Int) (a3 a4 : Int) : Option Bool :=
 open Classical in
 (laws_szBlock.f k l0 l1 l2 a3 a4 1048576).bind fun t => if t < 0 then some true else (laws_toBlock.f k l0 l1 l2 a3 a4).bind fun x => (spec_FormatBlock.f k x.1 x.2.1 x.2.2.1 x.2.2.2.1 x.2.2.2.2).bind fun s =>
  if impl_FormatBlock.f k x.1 x.2.1 x.2.2.1 x.2.2.2.1 x.2.2.2.2 = some s ∧ laws_eqStringS.f k s s = some true ∧ laws_eqBlock.f k x.1 x.2.1 x.2.2.1 x.2.2.2.1 x.2.2.2.2 x.1 x.2.1 x.2.2.1 x.2.2.2.1 x.2.2.2.2 = some true ∧ fewB ⟨x.1, x.2.1, x.2.2.1, x.2.2.2.1, x.2.2.2.2⟩ then
   (laws_markStringS.f k s 1).bind fun q => if laws_heldStringS.f k q.2 1 = some q.1 ∧ 0 ≤ q.1 then some true else none
  else none
theorem rng_R {α : Type} {d : Kd α} {e lo : Nat} {ok : Nat → Prop} {W0 W : World} {v : Value} {xs : List α} (h : Kd.R d e W W0.heap.size ok v xs) (hle : lo ≤ W0.heap.size) : Kd.R d e W lo (fun k => W0.heap.size ≤ k ∧ k < W.heap.size) v xs :=
 Kd.R_lower (Kd.R_mono (Kd.R_bound h) fun k hk => ⟨hk.2.1, hk.2.2.1⟩) hle
theorem rng_S {α : Type} {d : Kd α} {e lo : Nat} {ok : Nat → Prop} {W0 W : World} {v : Value} {xs : List α} (h : Kd.S d e W W0.heap.size ok v xs) (hle : lo ≤ W0.heap.size) : Kd.S d e W lo (fun k => (W0.heap.size ≤ k ∧ k < W.heap.size) ∧ ok k) v xs :=
 Kd.S_lower (Kd.S_mono (Kd.S_bound h) fun k hk => ⟨⟨hk.2.1, hk.2.2.1⟩, hk.1⟩) hle
set_option maxHeartbeats 8000000 in
set_option maxRecDepth 100000 in
theorem laws_FnExactFormatBlock.calls (k : Nat) (A0 : Option Addr) (c0 : Nat) (l0 : List S97) (A1 : Option Addr) (c1 : Nat) (l1 : List S87) (A2 : Option Addr) (c2 : Nat) (l2 : List Int) (a3 a4 : Int) (r : Bool) (w : World)
  (hr0 : Kd.C k97 w A0 l0.length l0) (hc0 : l0.length ≤ c0) (hr1 : Kd.C k87 w A1 l1.length l1) (hc1 : l1.length ≤ c1) (hr2 : Kd.C (Kd.int .i64) w A2 l2.length l2) (hc2 : l2.length ≤ c2) (h : laws_FnExactFormatBlock.f k l0 l1 l2 a3 a4 = some r) (htab : PowIs w) :
  Calls Tryz.prog 3 #[.agg #[.slice A0 l0.length c0, .slice A1 l1.length c1, .slice A2 l2.length c2, .int .i64 a3, .int .i64 a4]] w fun e w' => e = .returned (.bool r) ∧ Below w.heap.size w w' := by
 have hu1 := Tryz.underlying26; have hu2 := Tryz.underlying33; have HTAB := Aside0.mk htab; have HR0 := Aside0.mk hr0; have HR1 := Aside0.mk hr1; have HR2 := Aside0.mk hr2; have HC := Aside0.mk (And.intro hc0 (And.intro hc1 hc2)); have HB := Aside0.mk (Below.refl w.heap.size w); clear htab hr0 hr1 hr2 hc0 hc1 hc2
 unfold laws_FnExactFormatBlock.f at h
 obtain ⟨t, Hsz, h⟩ := bnd h
 have HCA : Aside0 (∀ W, Below w.heap.size w W → Kd.C k97 W A0 l0.length l0 ∧ Kd.C k87 W A1 l1.length l1 ∧ Kd.C (Kd.int .i64) W A2 l2.length l2) := ⟨fun W hb => ⟨Kd.C_below HR0.out hb, Kd.C_below HR1.out hb, Kd.C_below HR2.out hb⟩⟩
 by_cases ht : t < 0
 ·rw [if_pos ht] at h; obtain rfl := Option.some.inj h; have d0 := decide_eq_true ht; clear ht h
  go_enter Tryz.func3, Tryz.ntmps3
  go_wp2_with (first
   | (refine bxe 1 #[.slice A0 l0.length c0, .slice A1 l1.length c1, .slice A2 l2.length c2, .int .i64 a3, .int .i64 a4] 26 ?_; intro gb hg w1 hbox hb; have BK := Aside0.mk hbox; replace HB := hbs hb; clear hb hbox hg; obtain ⟨_, _, _, _, _, _, _, _, _, _⟩ := box5 BK)
   | (refine gL 6 (some 13) Tryz.func6 #[.agg #[.slice A0 l0.length c0, .slice A1 l1.length c1, .slice A2 l2.length c2, .int .i64 a3, .int .i64 a4], .int .i64 1048576] ?_; refine (laws_szBlock.calls k _ _ l0 _ _ l1 _ _ l2 a3 a4 1048576 t _ (HCA.out _ HB.out).1 HC.out.1 (HCA.out _ HB.out).2.1 HC.out.2.1 (HCA.out _ HB.out).2.2 HC.out.2.2 Hsz.out).mono ?_; rintro e w2 ⟨rfl, hb⟩; refine ⟨_, rfl, ?_⟩; replace HB := hbs hb; clear hb))
  go_ret
  exact ⟨rfl, HB.out⟩
 ·rw [if_neg ht] at h; have d0 := decide_eq_false ht; clear ht; obtain ⟨⟨x0, x1, x2, x3, x4⟩, Hto, h⟩ := bnd h; obtain ⟨s, Hsp, h⟩ := bnd h
  dsimp only at h Hsp
  split at h
  ·rename_i hcond
   obtain ⟨him, hes, heb, hfew⟩ := hcond; obtain ⟨⟨q1, q2⟩, Hmk, h⟩ := bnd h
   dsimp only at h
   split at h
   ·rename_i hcond2
    obtain ⟨hhe, hq0⟩ := hcond2; obtain rfl := Option.some.inj h; have Him := Aside0.mk him; have Hes := Aside0.mk hes; have Heb := Aside0.mk heb; have Hfew := Aside0.mk hfew; have Hhe := Aside0.mk hhe; clear h him hes heb hfew hhe
    go_enter Tryz.func3, Tryz.ntmps3
    go_upto_region 7 with (first
     | (refine bxe 1 #[.slice A0 l0.length c0, .slice A1 l1.length c1, .slice A2 l2.length c2, .int .i64 a3, .int .i64 a4] 26 ?_; intro gb hg w1 hbox hb; have BK := Aside0.mk hbox; have GB := Aside0.mk (gwe hg : w.heap.size ≤ _); replace HB := hbs hb; clear hb hbox hg; obtain ⟨_, _, _, _, _, _, _, _, _, _⟩ := box5 BK)
     | (refine gL 6 (some 13) Tryz.func6 #[.agg #[.slice A0 l0.length c0, .slice A1 l1.length c1, .slice A2 l2.length c2, .int .i64 a3, .int .i64 a4], .int .i64 1048576] ?_; refine (laws_szBlock.calls k _ _ l0 _ _ l1 _ _ l2 a3 a4 1048576 t _ (HCA.out _ HB.out).1 HC.out.1 (HCA.out _ HB.out).2.1 HC.out.2.1 (HCA.out _ HB.out).2.2 HC.out.2.2 Hsz.out).mono ?_; rintro e w2 ⟨rfl, hb⟩; refine ⟨_, rfl, ?_⟩; replace BK := kb BK hb; replace HB := hbs hb; clear hb; obtain ⟨_, _, _, _, _, _, _, _, _, _⟩ := box5 BK)
     | (refine gL 8 (some 17) Tryz.func8 #[.agg #[.slice A0 l0.length c0, .slice A1 l1.length c1, .slice A2 l2.length c2, .int .i64 a3, .int .i64 a4]] ?_; refine (laws_toBlock.calls k _ _ l0 _ _ l1 _ _ l2 a3 a4 x0 x1 x2 x3 x4 _ (HCA.out _ HB.out).1 HC.out.1 (HCA.out _ HB.out).2.1 HC.out.2.1 (HCA.out _ HB.out).2.2 HC.out.2.2 Hto.out).mono ?_; rintro e w3 ⟨u0, u1, u2, rfl, q0, q1_, q2_, hb⟩; refine ⟨_, rfl, ?_⟩; obtain ⟨B0, e0, rfl, m0, n0⟩ := Kd.R_reads q0; obtain ⟨B1, e1, rfl, m1, n1⟩ := Kd.S_reads q1_; obtain ⟨B2, e2, rfl, m2, n2⟩ := Kd.R_reads q2_; have HU := Aside0.mk (And.intro n0 (And.intro m0 (And.intro n1 (And.intro m1 (And.intro n2 m2))))); replace BK := kb BK hb; replace HB := hbs hb; clear hb q0 q1_ q2_ m0 n0 m1 n1 m2 n2)
     | (refine gL 7 (some 18) Tryz.func7 #[.agg #[.slice B0 x0.length e0, .slice B1 x1.length e1, .slice B2 x2.length e2, .int .i64 x3, .int .i64 x4]] ?_; refine (spec_FormatBlock.calls k _ _ x0 _ _ x1 _ _ x2 x3 x4 s _ HU.out.1 HU.out.2.1 HU.out.2.2.1 HU.out.2.2.2.1 HU.out.2.2.2.2.1 HU.out.2.2.2.2.2 Hsp.out).mono ?_; rintro e w4 ⟨u, rfl, hs, hb⟩; refine ⟨_, rfl, ?_⟩; obtain ⟨S0, f0, rfl⟩ := Kd.R_slice hs; have HS := Aside0.mk (rng_R hs (below_size bels)); replace BK := kb BK hb; replace HB := hbs hb; clear hb hs HU; obtain ⟨_, _, _, _, _, _, _, _, _, _⟩ := box5 BK)
     | (refine gL 8 (some 20) Tryz.func8 #[.agg #[.slice A0 l0.length c0, .slice A1 l1.length c1, .slice A2 l2.length c2, .int .i64 a3, .int .i64 a4]] ?_; refine (laws_toBlock.calls k _ _ l0 _ _ l1 _ _ l2 a3 a4 x0 x1 x2 x3 x4 _ (HCA.out _ HB.out).1 HC.out.1 (HCA.out _ HB.out).2.1 HC.out.2.1 (HCA.out _ HB.out).2.2 HC.out.2.2 Hto.out).mono ?_; rintro e w5 ⟨u0, u1, u2, rfl, q0, q1_, q2_, hb⟩; refine ⟨_, rfl, ?_⟩; obtain ⟨X0, y0, rfl⟩ := Kd.R_slice q0; obtain ⟨X1, y1, rfl⟩ := Kd.S_slice q1_; obtain ⟨X2, y2, rfl⟩ := Kd.R_slice q2_; have HX0 := Aside0.mk (rng_R q0 (below_size bels)); have HX1 := Aside0.mk (rng_S q1_ (below_size bels)); have HX2 := Aside0.mk (rng_R q2_ (below_size bels)); have HN5 := Aside0.mk hb.size; have HL4 := Aside0.mk (below_size HB.out); have HGB := Aside0.mk (blk_lt BK.out); replace HS := Aside0.mk (Kd.R_below HS.out hb); replace BK := kb BK hb; replace HB := hbs hb; clear hb q0 q1_ q2_)
     | (refine bxe 5 #[.slice none 0 0, .slice none 0 0, .slice none 0 0, .int .i64 0, .int .i64 0] 33 ?_; intro gx hg w6 hbox hb; have BX := Aside0.mk hbox; have GX := Aside0.mk (gwe hg : w.heap.size ≤ _); have NX := Aside0.mk hg; have NB := Aside0.mk (nbl hg BK); replace HS := Aside0.mk (Kd.R_below HS.out hb); replace HX0 := Aside0.mk (Kd.R_below HX0.out hb); replace HX1 := Aside0.mk (Kd.S_below HX1.out hb); replace HX2 := Aside0.mk (Kd.R_below HX2.out hb); replace BK := kb BK hb; replace HB := hbs hb; clear hb hbox hg; obtain ⟨_, _, _, _, _, _, _, _, _, _⟩ := box5 BX))
    replace HS := Aside0.mk (far5R (a0 := .slice X0 x0.length y0) (a1 := .slice X1 x1.length y1) (a2 := .slice X2 x2.length y2) (a3 := .int .i64 x3) (a4 := .int .i64 x4) HS BX); replace HX0 := Aside0.mk (far5R (a0 := .slice X0 x0.length y0) (a1 := .slice X1 x1.length y1) (a2 := .slice X2 x2.length y2) (a3 := .int .i64 x3) (a4 := .int .i64 x4) HX0 BX); replace HX1 := Aside0.mk (far5S (a0 := .slice X0 x0.length y0) (a1 := .slice X1 x1.length y1) (a2 := .slice X2 x2.length y2) (a3 := .int .i64 x3) (a4 := .int .i64 x4) HX1 BX); replace HX2 := Aside0.mk (far5R (a0 := .slice X0 x0.length y0) (a1 := .slice X1 x1.length y1) (a2 := .slice X2 x2.length y2) (a3 := .int .i64 x3) (a4 := .int .i64 x4) HX2 BX); replace BK := Aside0.mk (bkf5 (a0 := .slice X0 x0.length y0) (a1 := .slice X1 x1.length y1) (a2 := .slice X2 x2.length y2) (a3 := .int .i64 x3) (a4 := .int .i64 x4) NB BK (Below.refl _ _)); replace HB := Aside0.mk (below_set (below_set (below_set (below_set (below_set HB.out GX.out (j := 0) (v := .slice X0 x0.length y0)) GX.out (j := 1) (v := .slice X1 x1.length y1)) GX.out (j := 2) (v := .slice X2 x2.length y2)) GX.out (j := 3) (v := .int .i64 x3)) GX.out (j := 4) (v := .int .i64 x4)); replace BX := Aside0.mk (blk_set (blk_set (blk_set (blk_set (blk_set BX.out 0 (.slice X0 x0.length y0)) 1 (.slice X1 x1.length y1)) 2 (.slice X2 x2.length y2)) 3 (.int .i64 x3)) 4 (.int .i64 x4)); generalize (((((w6.setCell ⟨gx, 0, none⟩ (.slice X0 x0.length y0)).setCell ⟨gx, 1, none⟩ (.slice X1 x1.length y1)).setCell ⟨gx, 2, none⟩ (.slice X2 x2.length y2)).setCell ⟨gx, 3, none⟩ (.int .i64 x3)).setCell ⟨gx, 4, none⟩ (.int .i64 x4)) = w7 at *
    replace BX : Aside0 (w7.heap[gx]? = some (.cells #[.slice X0 x0.length y0, .slice X1 x1.length y1, .slice X2 x2.length y2, .int .i64 x3, .int .i64 x4] 33 (0, 0))) := ⟨by simpa using BX.out⟩
    have HL7 := Aside0.mk (show w5.heap.size ≤ w7.heap.size from Nat.le_of_lt (by have h := blk_lt BX.out; have := NX.out; omega)); obtain ⟨_, _, _, _, _, _, _, _, _, _⟩ := box5 BX
    go_upto_region 10 with (first
     | (refine gL 9 (some 22) Tryz.func9 #[.agg #[.slice X0 x0.length y0, .slice X1 x1.length y1, .slice X2 x2.length y2, .int .i64 x3, .int .i64 x4]] ?_; refine (impl_FormatBlock.calls k _ _ x0 _ _ x1 _ _ x2 x3 x4 s _ (Kd.R_reads' HX0.out).2.2 (Kd.R_reads' HX0.out).2.1 (Kd.S_reads' HX1.out).2.2 (Kd.S_reads' HX1.out).2.1 (Kd.R_reads' HX2.out).2.2 (Kd.R_reads' HX2.out).2.1 Him.out (PowIs.on HTAB.out HB.out)).mono ?_; rintro e w8 ⟨u, rfl, hs, hb⟩; refine ⟨_, rfl, ?_⟩; obtain ⟨G0, g0, rfl⟩ := Kd.R_slice hs; have HG := Aside0.mk (rng_R hs (below_size bels)); replace HS := Aside0.mk (Kd.R_below HS.out hb); replace HX0 := Aside0.mk (Kd.R_below HX0.out hb); replace HX1 := Aside0.mk (Kd.S_below HX1.out hb); replace HX2 := Aside0.mk (Kd.R_below HX2.out hb); replace BK := kb BK hb; replace BX := kb BX hb; replace HB := hbs hb; clear hb hs)
     | (refine gL 10 (some 25) Tryz.func10 #[.slice G0 s.length g0, .slice S0 s.length f0] ?_; refine (laws_eqStringS.calls k _ _ s _ _ s true _ (Kd.R_reads' HG.out).2.2 (Kd.R_reads' HG.out).2.1 (Kd.R_reads' HS.out).2.2 (Kd.R_reads' HS.out).2.1 Hes.out).mono ?_; rintro e w9 ⟨rfl, hd⟩; have hb := hd.below; refine ⟨_, rfl, ?_⟩; replace HG := Aside0.mk (Kd.R_below HG.out hb); replace HS := Aside0.mk (Kd.R_below HS.out hb); replace HX0 := Aside0.mk (Kd.R_below HX0.out hb); replace HX1 := Aside0.mk (Kd.S_below HX1.out hb); replace HX2 := Aside0.mk (Kd.R_below HX2.out hb); replace BK := kb BK hb; replace BX := kb BX hb; replace HB := hbs hb; clear hb hd))
    refine pr_region (by kernel_rfl) (fun W => Below w9.heap.size w9 W) (fun i W v => match i with
     | 0 => v = .agg #[.slice X0 x0.length y0, .slice X1 x1.length y1, .slice X2 x2.length y2, .int .i64 x3, .int .i64 x4]
     | 1 => v = .agg #[.slice A0 l0.length c0, .slice A1 l1.length c1, .slice A2 l2.length c2, .int .i64 a3, .int .i64 a4]
     | 2 => ∃ B0 e0 B1 e1 B2 e2, v = .agg #[.slice B0 x0.length e0, .slice B1 x1.length e1, .slice B2 x2.length e2, .int .i64 x3, .int .i64 x4] ∧ Kd.C k95 W B0 x0.length x0 ∧ x0.length ≤ e0 ∧ Kd.C k59 W B1 x1.length x1 ∧ x1.length ≤ e1 ∧ Kd.C (Kd.int .i64) W B2 x2.length x2 ∧ x2.length ≤ e2
     | 3 => v = .bool true
     | _ => v = .bool false) (below_drew1 (Below.refl _ _)) (show PrAll _ [0, 1, 2, 3, 4] from ⟨?_, ?_, ?_, ?_, ?_, trivial⟩) [(0, some 27), (1, some 28), (2, some 29), (3, some 30), (4, some 31)] ?_ (by kernel_rfl) (by kernel_rfl) (by kernel_rfl) ?_ (fun W W' h hb => below_then h h.size hb)
    ·refine pr_spec [] fun vs W hI _ b hb Kc hK => ?_
     (simp only [prPutD, Act.put, List.setIfInBounds_toArray, List.set_cons_succ, List.set_cons_zero] at hb); subst hb
     obtain ⟨_, _, _, _, _, _, _, _, _, _⟩ := box5 (Aside0.mk (blk_below BX.out hI))
     exact pr_pure hK _ rfl rfl gs
    ·refine pr_spec [] fun vs W hI _ b hb Kc hK => ?_
     (simp only [prPutD, Act.put, List.setIfInBounds_toArray, List.set_cons_succ, List.set_cons_zero] at hb); subst hb
     obtain ⟨_, _, _, _, _, _, _, _, _, _⟩ := box5 (Aside0.mk (blk_below BK.out hI))
     exact pr_pure hK _ rfl rfl gs
    ·refine pr_spec [(1, some 28)] fun vs W hI hN b hb Kc hK => ?_
     have h1 := hN 1 (by simp); rw [prPutD, h1] at hb
     (simp only [prPutD, Act.put, List.setIfInBounds_toArray, List.set_cons_succ, List.set_cons_zero] at hb); subst hb
     have HBW := Aside0.mk (below_then HB.out HB.out.size hI); refine goes_ Tryz.func8 (by kernel_rfl) rfl #[.agg #[.slice A0 l0.length c0, .slice A1 l1.length c1, .slice A2 l2.length c2, .int .i64 a3, .int .i64 a4]] rfl rfl rfl slq ?_
     refine (laws_toBlock.calls k _ _ l0 _ _ l1 _ _ l2 a3 a4 x0 x1 x2 x3 x4 _ (HCA.out _ HBW.out).1 HC.out.1 (HCA.out _ HBW.out).2.1 HC.out.2.1 (HCA.out _ HBW.out).2.2 HC.out.2.2 Hto.out).mono ?_
     rintro e w10 ⟨u0, u1, u2, rfl, q0, q1_, q2_, hb⟩; obtain ⟨B0, e0, rfl, m0, n0⟩ := Kd.R_reads q0; obtain ⟨B1, e1, rfl, m1, n1⟩ := Kd.S_reads q1_; obtain ⟨B2, e2, rfl, m2, n2⟩ := Kd.R_reads q2_
     exact ⟨_, rfl, hK _ _ hb ⟨B0, e0, B1, e1, B2, e2, rfl, n0, m0, n1, m1, n2, m2⟩⟩
    ·refine pr_spec [(0, some 27), (2, some 29)] fun vs W hI hN b hb Kc hK => ?_
     have h0 := hN 0 (by simp); obtain ⟨B0, e0, B1, e1, B2, e2, h1, n0, m0, n1, m1, n2, m2⟩ := hN 2 (by simp); rw [prPutD, prPutD, h0, h1] at hb
     (simp only [prPutD, Act.put, List.setIfInBounds_toArray, List.set_cons_succ, List.set_cons_zero] at hb); subst hb
     refine goes_ Tryz.func11 (by kernel_rfl) rfl #[.agg #[.slice X0 x0.length y0, .slice X1 x1.length y1, .slice X2 x2.length y2, .int .i64 x3, .int .i64 x4], .agg #[.slice B0 x0.length e0, .slice B1 x1.length e1, .slice B2 x2.length e2, .int .i64 x3, .int .i64 x4]] rfl rfl rfl slq ?_; have hx0 := Kd.R_reads' (Kd.R_below HX0.out hI); have hx1 := Kd.S_reads' (Kd.S_below HX1.out hI); have hx2 := Kd.R_reads' (Kd.R_below HX2.out hI)
     refine (laws_eqBlock.calls k _ _ x0 _ _ x1 _ _ x2 x3 x4 _ _ x0 _ _ x1 _ _ x2 x3 x4 true _ hx0.2.2 hx0.2.1 hx1.2.2 hx1.2.1 hx2.2.2 hx2.2.1 n0 m0 n1 m1 n2 m2 Heb.out).mono ?_
     rintro e w10 ⟨rfl, hb⟩
     exact ⟨_, rfl, hK _ _ hb rfl⟩
    ·refine pr_spec [(3, some 30)] fun vs W hI hN b hb Kc hK => ?_
     have h1 := hN 3 (by simp); rw [prPutD, h1] at hb
     (simp only [prPutD, Act.put, List.setIfInBounds_toArray, List.set_cons_succ, List.set_cons_zero] at hb); subst hb
     exact pr_pure hK _ rfl rfl gs
    ·intro vs W hI hN b hb
     have h0 := hN 0 (by decide); have h1 := hN 1 (by decide); obtain ⟨B0, e0, B1, e1, B2, e2, h2, -⟩ := hN 2 (by decide); have h3 := hN 3 (by decide); have h4 := hN 4 (by decide); rw [prPutD, prPutD, prPutD, prPutD, prPutD, h0, h1, h2, h3, h4] at hb
     (simp only [prPutD, Act.put, List.setIfInBounds_toArray, List.set_cons_succ, List.set_cons_zero] at hb); subst hb
     replace HS := Aside0.mk (Kd.R_below HS.out hI); replace HG := Aside0.mk (Kd.R_below HG.out hI); replace HX0 := Aside0.mk (Kd.R_below HX0.out hI); replace HX1 := Aside0.mk (Kd.S_below HX1.out hI); replace HX2 := Aside0.mk (Kd.R_below HX2.out hI); replace BK := Aside0.mk (blk_below BK.out hI); replace BX := Aside0.mk (blk_below BX.out hI); replace HB := Aside0.mk (below_then HB.out HB.out.size hI); clear h0 h1 h2 h3 h4 hN; obtain ⟨_, _, _, _, _, _, _, _, _, _⟩ := box5 BX
     have hPX0 : ∀ k, (w4.heap.size ≤ k ∧ k < w5.heap.size) → w.heap.size ≤ k := fun k hk => Nat.le_trans HL4.out hk.1
     have d1 : decide (1 + 4 * (x0.length : Int) + (marksW x1 : Int) + (x2.length : Int) < 0) = false := decide_eq_false (by omega)
     have d2 : decide (q1 < 0) = false := decide_eq_false (by omega)
     have d3 : (q1 != q1) = false := by simp
     go_wp2_with (first
      | (refine gL 12 (some 34) Tryz.func12 #[.agg #[.slice X0 x0.length y0, .slice X1 x1.length y1, .slice X2 x2.length y2, .int .i64 x3, .int .i64 x4], .int .i64 1] ?_; refine (markB_at (b := ⟨x0, x1, x2, x3, x4⟩) (P := fun k => w4.heap.size ≤ k ∧ k < w5.heap.size) HB.out HX0.out HX1.out HX2.out (by decide) (by have := Hfew.out.1; dsimp only at this ⊢; omega) Hfew.out.2.1 Hfew.out.2.2.1 Hfew.out.2.2.2.1 Hfew.out.2.2.2.2).mono ?_; rintro e w11 ⟨rfl, hb, hk⟩; refine ⟨_, rfl, ?_⟩; replace HS := Aside0.mk (Kd.R_kept HS.out hk (fun k h1 h2 => by omega)); replace HG := Aside0.mk (Kd.R_kept HG.out hk (fun k h1 h2 => by have := HL7.out; omega)); replace BK := Aside0.mk (blk_kept BK.out hk (fun h2 => by have := HGB.out; omega)); replace HB := Aside0.mk hb; clear hb hk HX0 HX1 HX2 BX)
      | (refine gL 13 (some 45) Tryz.func13 #[.slice G0 s.length g0, .int .i64 1] ?_; refine (laws_markStringS.calls k _ _ s 1 q1 q2 w _ HB.out HG.out Hmk.out).mono ?_; rintro e w13 ⟨rfl, hm, hb, hk⟩; refine ⟨_, rfl, ?_⟩; have HLq := Aside0.mk (Kd.R_reads' hm).1; replace HG := Aside0.mk hm; replace HS := Aside0.mk (Kd.R_kept HS.out hk (fun k h1 h2 => by have := HL7.out; have := HN5.out; omega)); replace BK := Aside0.mk (blk_kept BK.out hk (fun h2 => by have := HGB.out; have := HL7.out; have := HN5.out; omega)); replace HB := Aside0.mk hb; clear hm hb hk)
      | (refine gL 14 (some 48) Tryz.func14 #[.slice G0 s.length g0, .int .i64 1] ?_; have hh := laws_heldStringS.calls k G0 g0 q2 1 q1 _ (Kd.R_reads' HG.out).2.2 (Nat.le_trans (Nat.le_of_eq HLq.out.symm) (Kd.R_reads' HG.out).2.1) Hhe.out; rw [← HLq.out] at hh; refine hh.mono ?_; clear hh; rintro e w14 ⟨rfl, hb⟩; refine ⟨_, rfl, ?_⟩; replace HG := Aside0.mk (Kd.R_below HG.out hb); replace HS := Aside0.mk (Kd.R_below HS.out hb); replace BK := kb BK hb; replace HB := hbs hb; clear hb; obtain ⟨_, _, _, _, _, _, _, _, _, _⟩ := box5 BK)
      | (refine gL 8 (some 55) Tryz.func8 #[.agg #[.slice A0 l0.length c0, .slice A1 l1.length c1, .slice A2 l2.length c2, .int .i64 a3, .int .i64 a4]] ?_; refine (laws_toBlock.calls k _ _ l0 _ _ l1 _ _ l2 a3 a4 x0 x1 x2 x3 x4 _ (HCA.out _ HB.out).1 HC.out.1 (HCA.out _ HB.out).2.1 HC.out.2.1 (HCA.out _ HB.out).2.2 HC.out.2.2 Hto.out).mono ?_; rintro e w15 ⟨u0, u1, u2, rfl, q0, q1_, q2_, hb⟩; refine ⟨_, rfl, ?_⟩; obtain ⟨Z0, j0, rfl, m0, n0⟩ := Kd.R_reads q0; obtain ⟨Z1, j1, rfl, m1, n1⟩ := Kd.S_reads q1_; obtain ⟨Z2, j2, rfl, m2, n2⟩ := Kd.R_reads q2_; have HU := Aside0.mk (And.intro n0 (And.intro m0 (And.intro n1 (And.intro m1 (And.intro n2 m2))))); replace HG := Aside0.mk (Kd.R_below HG.out hb); replace HS := Aside0.mk (Kd.R_below HS.out hb); replace BK := kb BK hb; replace HB := hbs hb; clear hb q0 q1_ q2_ m0 n0 m1 n1 m2 n2)
      | (refine gL 9 (some 56) Tryz.func9 #[.agg #[.slice Z0 x0.length j0, .slice Z1 x1.length j1, .slice Z2 x2.length j2, .int .i64 x3, .int .i64 x4]] ?_; refine (impl_FormatBlock.calls k _ _ x0 _ _ x1 _ _ x2 x3 x4 s _ HU.out.1 HU.out.2.1 HU.out.2.2.1 HU.out.2.2.2.1 HU.out.2.2.2.2.1 HU.out.2.2.2.2.2 Him.out (PowIs.on HTAB.out HB.out)).mono ?_; rintro e w16 ⟨u, rfl, hs, hb⟩; refine ⟨_, rfl, ?_⟩; obtain ⟨H0, h0_, rfl⟩ := Kd.R_slice hs; have HH := Aside0.mk (rng_R hs (below_size bels)); replace HG := Aside0.mk (Kd.R_below HG.out hb); replace HS := Aside0.mk (Kd.R_below HS.out hb); replace BK := kb BK hb; replace HB := hbs hb; clear hb hs HU)
      | (refine gL 10 (some 59) Tryz.func10 #[.slice H0 s.length h0_, .slice S0 s.length f0] ?_; refine (laws_eqStringS.calls k _ _ s _ _ s true _ (Kd.R_reads' HH.out).2.2 (Kd.R_reads' HH.out).2.1 (Kd.R_reads' HS.out).2.2 (Kd.R_reads' HS.out).2.1 Hes.out).mono ?_; rintro e w17 ⟨rfl, hd⟩; have hb := hd.below; refine ⟨_, rfl, ?_⟩; replace HG := Aside0.mk (Kd.R_below HG.out hb); replace HS := Aside0.mk (Kd.R_below HS.out hb); replace BK := kb BK hb; replace HB := hbs hb; clear hb hd HH)
      | (refine gL 14 (some 63) Tryz.func14 #[.slice G0 s.length g0, .int .i64 1] ?_; have hh := laws_heldStringS.calls k G0 g0 q2 1 q1 _ (Kd.R_reads' HG.out).2.2 (Nat.le_trans (Nat.le_of_eq HLq.out.symm) (Kd.R_reads' HG.out).2.1) Hhe.out; rw [← HLq.out] at hh; refine hh.mono ?_; clear hh; rintro e w18 ⟨rfl, hb⟩; refine ⟨_, rfl, ?_⟩; replace HG := Aside0.mk (Kd.R_below HG.out hb); replace HS := Aside0.mk (Kd.R_below HS.out hb); replace BK := kb BK hb; replace HB := hbs hb; clear hb)
      | (go_at_call 10; refine (laws_eqStringS.calls k _ _ s _ _ s true _ (Kd.R_reads' HG.out).2.2 (Kd.R_reads' HG.out).2.1 (Kd.R_reads' HS.out).2.2 (Kd.R_reads' HS.out).2.1 Hes.out).mono ?_; rintro e w12 ⟨rfl, hd⟩; have hb := hd.below; replace HG := Aside0.mk (Kd.R_below HG.out hb); replace HS := Aside0.mk (Kd.R_below HS.out hb); replace BK := kb BK hb; replace HB := hbs hb; clear hb hd))
     go_ret
     exact ⟨rfl, HB.out⟩
    ·intro i W W' v h hb
     match i, h with
     | 0, h => exact h
     | 1, h => exact h
     | 2, ⟨B0, e0, B1, e1, B2, e2, h0, h1, h2, h3, h4, h5, h6⟩ => exact ⟨B0, e0, B1, e1, B2, e2, h0, Kd.C_below h1 hb, h2, Kd.C_below h3 hb, h4, Kd.C_below h5 hb, h6⟩
     | 3, h => exact h
     | _ + 4, h => exact h
   ·cases h
  ·cases h

end Go.Proofs.YtmnkbchieplicaaGreatDoor.Q
