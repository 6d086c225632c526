/- laws.markWarpS and laws.markBlock: the rows of a block are written; what the call was not given stays. -/
import Derived.Test.YtmnkbchieplicaaGreatDoorKFnExactFormatBlock32
namespace Go.Proofs.YtmnkbchieplicaaGreatDoor.Q
open Go Go.RowKit Go.Proofs.YtmnkbchieplicaaGreatDoorW.PrintWords Go.Proofs.YtmnkbchieplicaaGreatDoorW.PrintLast Go.Proofs.YtmnkbchieplicaaGreatDoorW.PrintMore
set_option linter.unusedVariables false
set_option linter.unusedSimpArgs false

/-- What a call keeps that writes the row v alone. -/
abbrev Only (v : Value) : Nat → Prop := fun k => some k = v.ownBlock
theorem markN_at {w0 w : World} (hB : Below w0.heap.size w0 w) {v : Value} {l : List Int} {ok : Nat → Prop} (h : Kd.R (Kd.int .i64) 3 w w0.heap.size ok v l) {m : Int} (h0 : 0 ≤ m) (h1 : m ≤ 10000000000000) (hl : l.length ≤ 1048576) :
  Calls Tryz.prog 44 #[v, .int .i64 m] w fun e w' => e = .returned (.int .i64 (m + (l.length : Int))) ∧ Below w0.heap.size w0 w' ∧ Kept w w' (Only v) := by
 obtain ⟨z, hz⟩ := markN_ev l m h0 h1 hl; obtain ⟨K, hK⟩ := hz
 exact (laws_markIntS.calls K (Only v) v l m _ z w0 w hB (Kd.R_tight rfl h) (hK K (Nat.le_refl _))).mono fun e w' h => ⟨h.1, h.2.2⟩
theorem markF_at {w0 w : World} (hB : Below w0.heap.size w0 w) {v : Value} {l : List MFrm} {ok : Nat → Prop} (h : Kd.R k132 132 w w0.heap.size ok v l) {m : Int} (h0 : 0 ≤ m) (h1 : m ≤ 10000000000000) (hl : l.length ≤ 1048576) :
  Calls Tryz.prog 77 #[v, .int .i64 m] w fun e w' => e = .returned (.int .i64 (m + 3 * (l.length : Int))) ∧ Below w0.heap.size w0 w' ∧ Kept w w' (Only v) := by
 obtain ⟨z, hz⟩ := markF_ev l m h0 h1 hl; obtain ⟨K, hK⟩ := hz
 exact (laws_markFrameS.calls K (Only v) v l m _ z w0 w hB (Kd.R_tight rfl h) (hK K (Nat.le_refl _))).mono fun e w' h => ⟨h.1, h.2.2⟩
theorem markI_at {w0 w : World} (hB : Below w0.heap.size w0 w) {v : Value} {l : List MIns} {ok : Nat → Prop} (h : Kd.R k95 95 w w0.heap.size ok v l) {m : Int} (h0 : 0 ≤ m) (h1 : m ≤ 10000000000000) (hl : l.length ≤ 1048576) :
  Calls Tryz.prog 42 #[v, .int .i64 m] w fun e w' => e = .returned (.int .i64 (m + 4 * (l.length : Int))) ∧ Below w0.heap.size w0 w' ∧ Kept w w' (Only v) := by
 obtain ⟨z, hz⟩ := markI_ev l m h0 h1 hl; obtain ⟨K, hK⟩ := hz
 exact (laws_markInsS.calls K (Only v) v l m _ z w0 w hB (Kd.R_tight rfl h) (hK K (Nat.le_refl _))).mono fun e w' h => ⟨h.1, h.2.2⟩
/-- The warps from i on, in a row of their own: their rows are apart. -/
def WarpsFrom (W : World) (lo g i : Nat) (P : Nat → Prop) (f : Nat → Nat) (l : List MWrp) : Prop :=
 ∃ cs : Array Value, W.heap[g]? = some (.cells cs 59 (0, 0)) ∧ ∀ j, i ≤ j → j < l.length → ∃ q A1 c1 A2 c2, cs[j * 3]? = some (.int .i64 q) ∧ cs[j * 3 + 1]? = some (.slice A1 (l.getD j z59).f1.length c1) ∧ cs[j * 3 + 2]? = some (.slice A2 (l.getD j z59).f2.length c2) ∧
  Kd.R k132 132 W lo (fun k => (P k ∧ lo ≤ k ∧ k ≠ g) ∧ f k = j) (.slice A1 (l.getD j z59).f1.length c1) (l.getD j z59).f1 ∧ Kd.R (Kd.int .i64) 3 W lo (fun k => (P k ∧ lo ≤ k ∧ k ≠ g) ∧ f k = j) (.slice A2 (l.getD j z59).f2.length c2) (l.getD j z59).f2
theorem WarpsFrom.of {W : World} {lo : Nat} {P : Nat → Prop} {u : Value} {l : List MWrp} (h : Kd.S k59 59 W lo P u l) (hn : 0 < l.length) : ∃ g c f, u = .slice (some ⟨g, 0, none⟩) l.length c ∧ (P g ∧ lo ≤ g) ∧ WarpsFrom W lo g 0 P f l := by
 obtain ⟨g, c, rfl, hlo, hlt, cells, hc⟩ := Kd.S_form h hn; obtain ⟨f, hR⟩ := h; have hPg := hR.1 g (by simp [Value.ownBlock]); obtain ⟨hok, inner, ho, hr⟩ := hR; rw [List.length_zipIdx] at ho; obtain ⟨cur, hh, hs, hcw, _, hcells⟩ := own_cells ho
 have hcells3 : ∀ j, j < l.length * 3 → cur[j]? = inner[j]? := hcells
 refine ⟨g, c, f, rfl, ⟨hPg, hlo⟩, cur, hh, fun j _ hj => ?_⟩
 have hz : l[j]? = some (l.getD j z59) := by rw [List.getD_eq_getElem?_getD, List.getElem?_eq_getElem hj]; rfl
 have hM := hr.2 j (l.getD j z59, j) (Kd.zip_at hz)
 have hM2 : k59.M W lo (fun q => (P q ∧ some q ≠ (Value.slice (some ⟨g, 0, none⟩) l.length c).ownBlock) ∧ f q = j) (l.getD j z59) ((inner.drop (j * 3)).take 3) := hM
 obtain ⟨x1, x2, he, g1, g2⟩ := k59_openM hM2; obtain ⟨e0, e1, e2⟩ := take3 he; obtain ⟨A1, c1, rfl⟩ := Kd.R_slice g1; obtain ⟨A2, c2, rfl⟩ := Kd.R_slice g2
 have d1 : ∀ (e : Nat) (_ : e ≠ 59) (k : Nat), (∃ cells, W.heap[k]? = some (.cells cells e (0, 0))) → k ≠ g := fun e he k hk => by
  obtain ⟨cells, hk⟩ := hk; rintro rfl; rw [hk] at hh
  injection hh with hh
  injection hh with _ hh
  exact he hh
 refine ⟨_, A1, c1, A2, c2, by rw [hcells3 _ (by omega)]; exact e0, by rw [hcells3 _ (by omega)]; exact e1, by rw [hcells3 _ (by omega)]; exact e2, ?_, ?_⟩
 ·refine Kd.R_mono (Kd.R_tight rfl g1) fun k hk => ⟨⟨(g1.1 k hk.symm).1.1, Kd.R_base g1 k hk.symm, d1 132 (by decide) k (Kd.R_typed g1 k hk.symm)⟩, (g1.1 k hk.symm).2⟩
 ·refine Kd.R_mono (Kd.R_tight rfl g2) fun k hk => ⟨⟨(g2.1 k hk.symm).1.1, Kd.R_base g2 k hk.symm, d1 3 (by decide) k (Kd.R_typed g2 k hk.symm)⟩, (g2.1 k hk.symm).2⟩
theorem WarpsFrom.step {W W1 : World} {lo g i i' : Nat} {P : Nat → Prop} {f : Nat → Nat} {l : List MWrp} (h : WarpsFrom W lo g i P f l) (hi : i ≤ i') {S : Nat → Prop} (hk : Kept W W1 S) (hg : ¬ S g) (hS : ∀ k, S k → f k < i') : WarpsFrom W1 lo g i' P f l := by
 obtain ⟨cs, h1, h2⟩ := h
 refine ⟨cs, blk_kept h1 hk hg, fun j hj hl => ?_⟩
 obtain ⟨q, A1, c1, A2, c2, e0, e1, e2, r1, r2⟩ := h2 j (by omega) hl
 exact ⟨q, A1, c1, A2, c2, e0, e1, e2, Kd.R_kept r1 hk fun k hk hs => by have := hS k hs; omega, Kd.R_kept r2 hk fun k hk hs => by have := hS k hs; omega⟩
theorem WarpsFrom.put {W : World} {lo g i : Nat} {P : Nat → Prop} {f : Nat → Nat} {l : List MWrp} (h : WarpsFrom W lo g i P f l) (v : Int) : WarpsFrom (W.setCell ⟨g, i * 3, none⟩ (.int .i64 v)) lo g i P f l := by
 obtain ⟨cs, h1, h2⟩ := h
 refine ⟨cs.setIfInBounds (i * 3) (.int .i64 v), blk_set h1 _ _, fun j hj hl => ?_⟩
 obtain ⟨q, A1, c1, A2, c2, e0, e1, e2, r1, r2⟩ := h2 j hj hl
 have hne : ∀ k, ((P k ∧ lo ≤ k ∧ k ≠ g) ∧ f k = j) → k ≠ g := fun k hk => hk.1.2.2
 have hq : ∃ q', (cs.setIfInBounds (i * 3) (.int .i64 v))[j * 3]? = some (.int .i64 q') := by
  rw [Array.getElem?_setIfInBounds]
  split
  ·split
   ·exact ⟨v, rfl⟩
   ·rename_i h3 h4; rw [Array.getElem?_eq_none (by omega)] at e0; cases e0
  ·exact ⟨q, e0⟩
 obtain ⟨q', e0'⟩ := hq
 exact ⟨q', A1, c1, A2, c2, e0', by rw [Array.getElem?_setIfInBounds_ne (by omega)]; exact e1, by rw [Array.getElem?_setIfInBounds_ne (by omega)]; exact e2, Kd.R_far (p := ⟨g, i * 3, none⟩) r1 hne _, Kd.R_far (p := ⟨g, i * 3, none⟩) r2 hne _⟩
set_option maxHeartbeats 8000000 in
set_option maxRecDepth 100000 in
theorem markW_at {w0 w : World} (hB : Below w0.heap.size w0 w) {P : Nat → Prop} {u : Value} {l : List MWrp} (h : Kd.S k59 59 w w0.heap.size P u l) {m : Int} (h0 : 0 ≤ m) (h1 : m + (marksW l : Int) ≤ 10000000000000)
  (hl : l.length ≤ 1048576) (hr : ∀ i, i < l.length → (l.getD i z59).f1.length ≤ 1048576 ∧ (l.getD i z59).f2.length ≤ 1048576) :
  Calls Tryz.prog 43 #[u, .int .i64 m] w fun e w' => e = .returned (.int .i64 (m + (marksW l : Int))) ∧ Below w0.heap.size w0 w' ∧ Kept w w' P := by
 have hu1 := Tryz.underlying59; obtain ⟨A, c, hu⟩ := Kd.S_slice h
 have HW : ∃ g f, (0 < l.length → u = .slice (some ⟨g, 0, none⟩) l.length c ∧ (P g ∧ w0.heap.size ≤ g) ∧ WarpsFrom w w0.heap.size g 0 P f l) := by
  by_cases hn : 0 < l.length
  ·obtain ⟨g, c', f, e, e2, e3⟩ := WarpsFrom.of h hn
   refine ⟨g, f, fun _ => ⟨?_, e2, e3⟩⟩
   rw [hu] at e ⊢
   injection e with e1 e2 e3
   rw [e1]
  ·exact ⟨0, fun _ => 0, fun hn2 => absurd hn2 hn⟩
 obtain ⟨g, f, HW⟩ := HW; have HH := Aside0.mk h; subst hu; have HL := Aside0.mk hl; have HN := Aside0.mk hr; have HM := Aside0.mk (And.intro h0 h1); have HB := Aside0.mk hB; have HWa := Aside0.mk HW; clear hB h h0 h1 hl hr HW
 go_enter Tryz.func43, Tryz.ntmps43
 go_wp2_with fail
 go_loopg [1, 5] (l.length + 1) (fun kq v1 v5 w' => ∃ i : Nat, v1 = .int .i64 (m + (marksW (l.take i) : Int)) ∧ v5 = .int .i64 (i : Int) ∧ Aside0 (i ≤ l.length ∧ i + kq = l.length + 1) ∧ Aside0 (0 < l.length → WarpsFrom w' w0.heap.size g i P f l) ∧ Aside0 (Kept w w' P) ∧ Aside0 (Below w0.heap.size w0 w'))
 case atStart => exact ⟨0, by simp [marksW], rfl, ⟨by omega⟩, ⟨fun hn => (HWa.out hn).2.2⟩, ⟨Kept.refl _ _⟩, HB⟩
 case round =>
  clear HB; obtain ⟨i, rfl, rfl, HI, HF, HK, HB⟩ := hrel
  by_cases hlt : i < l.length
  ·have c0 : decide ((i : Int) < (l.length : Int)) = true := decide_eq_true (by omega)
   obtain ⟨k1, rfl⟩ : ∃ z, gk = z + 1 := ⟨gk - 1, by have := HI.out; omega⟩
   obtain ⟨hA, ⟨hPg, hlo⟩, -⟩ := HWa.out (by omega)
   injection hA with hA _ _
   subst hA; have HFi := Aside0.mk (HF.out (by omega)); clear HF HWa; have HFp := Aside0.mk (WarpsFrom.put HFi.out (m + (marksW (l.take i) : Int))); have HKp := Aside0.mk (Kept.setCell HK.out (p := ⟨g, i * 3, none⟩) (.inl hPg) (.int .i64 (m + (marksW (l.take i) : Int)))); have HBp := Aside0.mk (Below.setCell HB.out (p := ⟨g, i * 3, none⟩) hlo (.int .i64 (m + (marksW (l.take i) : Int)))); have HT := Aside0.mk (marksW_take l i hlt); have HT2 := Aside0.mk (marksW_le l (i + 1)); have HNi := Aside0.mk (HN.out i hlt); obtain ⟨cs, hb, hcs⟩ := HFi.out; obtain ⟨q, A1, c1, A2, c2, e0, e1, e2, r1, r2⟩ := hcs i (Nat.le_refl _) hlt
   have hx0 : wr.cell? ⟨g, i * 3, none⟩ = some (.int .i64 q) := (blk_cell hb _).trans e0
   have hf0 : wr.frozen? ⟨g, i * 3, none⟩ = false := blk_frozen hb _
   clear hb hcs e0 e1 e2 r1 r2 cs; generalize hW : wr.setCell ⟨g, i * 3, none⟩ (.int .i64 (m + (marksW (l.take i) : Int))) = W2 at HFp HKp HBp; obtain ⟨cs, hb, hcs⟩ := HFp.out; obtain ⟨q', A1, c1, A2, c2, e0, e1, e2, r1, r2⟩ := hcs i (Nat.le_refl _) hlt
   have hx1 : W2.cell? ⟨g, i * 3 + 1, none⟩ = some (.slice A1 (l.getD i z59).f1.length c1) := (blk_cell hb _).trans e1
   have hx2 : W2.cell? ⟨g, i * 3 + 2, none⟩ = some (.slice A2 (l.getD i z59).f2.length c2) := (blk_cell hb _).trans e2
   have R1 := Aside0.mk r1; have R2 := Aside0.mk r2; have HBk := Aside0.mk hb; clear r1 r2 hb hcs e0 e1 e2; generalize (l.getD i z59).f1 = fs at *; generalize (l.getD i z59).f2 = rs at *
   have HE := Aside0.mk (show ∀ k, some k = (Value.slice A2 rs.length c2).ownBlock → ¬ some k = (Value.slice A1 fs.length c1).ownBlock from fun k h2 h1 => by
    obtain ⟨x, hx⟩ := Kd.R_typed R2.out k h2.symm; obtain ⟨y, hy⟩ := Kd.R_typed R1.out k h1.symm; rw [hx] at hy
    injection hy with hy
    injection hy with _ hy
    exact absurd hy (by decide))
   have HO1 := Aside0.mk (show ∀ k, some k = (Value.slice A1 fs.length c1).ownBlock → (P k ∧ w0.heap.size ≤ k ∧ k ≠ g) ∧ f k = i from fun k hk => R1.out.1 k hk.symm); have HO2 := Aside0.mk (show ∀ k, some k = (Value.slice A2 rs.length c2).ownBlock → (P k ∧ w0.heap.size ≤ k ∧ k ≠ g) ∧ f k = i from fun k hk => R2.out.1 k hk.symm); have HW1 := Aside0.mk (show wrap64 (m + (marksW (l.take i) : Int) + 1) = m + (marksW (l.take i) : Int) + 1 by have := HM.out; have := HT.out; have := HT2.out; unfold wrap64; omega); have HQ := Aside0.mk (show 0 ≤ m + (marksW (l.take i) : Int) + 1 ∧ m + (marksW (l.take i) : Int) + 1 + 3 * (fs.length : Int) + (rs.length : Int) ≤ 10000000000000 by have := HM.out; have := HT.out; have := HT2.out; omega); have R2t := Aside0.mk (Kd.R_tight rfl R2.out); clear R2 HBk
   go_wp2_with (first
    | (refine gL 77 (some 25) Tryz.func77 #[.slice A1 fs.length c1, .int .i64 (wrap64 (m + (marksW (l.take i) : Int) + 1))] ?_; refine (markF_at HBp.out R1.out (by rw [HW1.out]; exact HQ.out.1) (by rw [HW1.out]; have := HQ.out; omega) HNi.out.1).mono ?_; rintro e w3 ⟨rfl, hb3, hk3⟩; refine ⟨_, rfl, ?_⟩; replace hx2 := cell_kept hx2 hk3 (fun hs => ((HO1.out _ hs).1.2.2) rfl); replace HFp := Aside0.mk (WarpsFrom.step HFp.out (Nat.le_succ i) hk3 (fun hs => ((HO1.out _ hs).1.2.2) rfl) (fun k hs => by have := (HO1.out k hs).2; omega)); replace HKp := Aside0.mk (Kept.then_ HKp.out hk3 (fun k hs => .inl (HO1.out k hs).1.1)); replace HBp := Aside0.mk hb3; replace R2t := Aside0.mk (Kd.R_kept R2t.out hk3 (fun k hk hs => HE.out k hk hs)); clear hb3 hk3 hx1 R1)
    | (refine gL 44 (some 32) Tryz.func44 #[.slice A2 rs.length c2, .int .i64 (wrap64 (m + (marksW (l.take i) : Int) + 1) + 3 * (fs.length : Int))] ?_; refine (markN_at HBp.out R2t.out (by rw [HW1.out]; have := HQ.out; omega) (by rw [HW1.out]; have := HQ.out; omega) HNi.out.2).mono ?_; rintro e w4 ⟨rfl, hb3, hk3⟩; refine ⟨_, rfl, ?_⟩; replace HFp := Aside0.mk (WarpsFrom.step HFp.out (Nat.le_refl _) hk3 (fun hs => ((HO2.out _ hs).1.2.2) rfl) (fun k hs => by have := (HO2.out k hs).2; omega)); replace HKp := Aside0.mk (Kept.then_ HKp.out hk3 (fun k hs => .inl (HO2.out k hs).1.1)); replace HBp := Aside0.mk hb3; clear hb3 hk3))
   go_roundg k1
   case measure => have := HI.out; omega
   case rel => exact ⟨i + 1, by rw [HW1.out, HT.out]; congr 1; push_cast; omega, by congr 1; have := HI.out; have := HL.out; unfold wrap64; omega, ⟨by have := HI.out; omega⟩, ⟨fun _ => HFp.out⟩, HKp, HBp⟩
  ·have c0 : decide ((i : Int) < (l.length : Int)) = false := decide_eq_false (by omega)
   have hi : i = l.length := by have := HI.out; omega
   subst hi
   go_wp2_with fail
   go_ret
   exact ⟨by first | rfl | (rw [List.take_length]; rfl) | simp, HB.out, HK.out⟩
set_option maxHeartbeats 8000000 in
set_option maxRecDepth 100000 in
/-- A block's rows are marked: the numbers go on behind the last. What is not one of its rows stays. -/
theorem markB_at {w0 w : World} (hB : Below w0.heap.size w0 w) {P : Nat → Prop} {v0 v1 v2 : Value} {b : MBlk} (h0 : Kd.R k95 95 w w0.heap.size P v0 b.f0) (h1 : Kd.S k59 59 w w0.heap.size (fun k => P k ∧ some k ≠ v2.ownBlock) v1 b.f1) (h2 : Kd.R (Kd.int .i64) 3 w w0.heap.size P v2 b.f2) {m : Int}
  (hm0 : 0 ≤ m) (hm : m + 4 * (b.f0.length : Int) + (marksW b.f1 : Int) + (b.f2.length : Int) ≤ 10000000000000) (hl0 : b.f0.length ≤ 1048576) (hl1 : b.f1.length ≤ 1048576) (hl2 : b.f2.length ≤ 1048576)
  (hr : ∀ i, i < b.f1.length → (b.f1.getD i z59).f1.length ≤ 1048576 ∧ (b.f1.getD i z59).f2.length ≤ 1048576) :
  Calls Tryz.prog 12 #[.agg #[v0, v1, v2, .int .i64 b.f3, .int .i64 b.f4], .int .i64 m] w fun e w' => e = .returned (.int .i64 (m + 4 * (b.f0.length : Int) + (marksW b.f1 : Int) + (b.f2.length : Int))) ∧ Below w0.heap.size w0 w' ∧ Kept w w' P := by
 have hu1 := Tryz.underlying33; obtain ⟨A0, c0, rfl⟩ := Kd.R_slice h0; obtain ⟨A1, c1, rfl⟩ := Kd.S_slice h1; obtain ⟨A2, c2, rfl⟩ := Kd.R_slice h2
 have hT0 := fun k (hk : some k = (Value.slice A0 b.f0.length c0).ownBlock) => Kd.R_typed h0 k hk.symm
 have hT2 := fun k (hk : some k = (Value.slice A2 b.f2.length c2).ownBlock) => Kd.R_typed h2 k hk.symm
 have hty : ∀ (k e1 e2 : Nat), e1 ≠ e2 → (∃ cells, w.heap[k]? = some (.cells cells e1 (0, 0))) → (∃ cells, w.heap[k]? = some (.cells cells e2 (0, 0))) → False := by
  rintro k e1 e2 he ⟨x, hx⟩ ⟨y, hy⟩; rw [hx] at hy
  injection hy with hy
  injection hy with _ hy
  exact he hy
 obtain ⟨PS, hPS, hS⟩ : ∃ PS : Nat → Prop, (∀ k, PS k → P k ∧ some k ≠ (Value.slice A2 b.f2.length c2).ownBlock ∧ k < w.heap.size ∧ ¬ some k = (Value.slice A0 b.f0.length c0).ownBlock) ∧ Kd.S k59 59 w w0.heap.size PS (.slice A1 b.f1.length c1) b.f1 :=
  ⟨_, fun k hk => hk, Kd.S_mono (Kd.S_bound h1) fun k hk => ⟨hk.1.1, hk.1.2, hk.2.2.1, fun he => by
   obtain ⟨q, hq, hc⟩ := hk.2.2.2
   exact hty k q 95 (fun e => by subst e; revert hq; decide) hc (hT0 k he)⟩⟩
 have HO0 := Aside0.mk (show ∀ k, some k = (Value.slice A0 b.f0.length c0).ownBlock → P k ∧ k < w.heap.size ∧ ¬ some k = (Value.slice A2 b.f2.length c2).ownBlock from fun k hk => ⟨h0.1 k hk.symm, Kd.R_lt h0 k hk.symm, fun he => hty k _ _ (by decide) (hT0 k hk) (hT2 k he)⟩); have HO2 := Aside0.mk (show ∀ k, some k = (Value.slice A2 b.f2.length c2).ownBlock → P k ∧ k < w.heap.size from fun k hk => ⟨h2.1 k hk.symm, Kd.R_lt h2 k hk.symm⟩); have HPS := Aside0.mk hPS; have R0 := Aside0.mk h0; have R1 := Aside0.mk hS; have R2 := Aside0.mk (Kd.R_tight rfl h2); have HM := Aside0.mk (And.intro hm0 hm); have HL := Aside0.mk (And.intro hl0 (And.intro hl1 hl2)); have HN := Aside0.mk hr; have HK := Aside0.mk (Kept.refl w P); have HBW := Aside0.mk hB; have HB := Aside0.mk (Below.refl w.heap.size w); clear h0 h1 h2 hm0 hm hl0 hl1 hl2 hr hB hT0 hT2 hty hPS hS
 go_enter Tryz.func12, Tryz.ntmps12
 go_wp2_with (first
  | (refine bxe 2 #[.slice A0 b.f0.length c0, .slice A1 b.f1.length c1, .slice A2 b.f2.length c2, .int .i64 b.f3, .int .i64 b.f4] 33 ?_; intro gb hg w1 hbox hb; have HG := Aside0.mk hg; have BK := Aside0.mk hbox; replace R0 := Aside0.mk (Kd.R_below R0.out hb); replace R1 := Aside0.mk (Kd.S_below R1.out hb); replace R2 := Aside0.mk (Kd.R_below R2.out hb); replace HK := Aside0.mk (Kept.below HK.out hb); replace HBW := Aside0.mk (Below.trans HBW.out (Below.mono hb HBW.out.size)); clear hb hbox hg HB; obtain ⟨_, _, _, _, _, _, _, _, _, _⟩ := box5 BK)
  | (refine gL 42 (some 8) Tryz.func42 #[.slice A0 b.f0.length c0, .int .i64 m] ?_; refine (markI_at HBW.out R0.out HM.out.1 (by have := HM.out; omega) HL.out.1).mono ?_; rintro e w2 ⟨rfl, hb, hk⟩; refine ⟨_, rfl, ?_⟩; replace R1 := Aside0.mk (Kd.S_kept R1.out hk (fun k h1 h2 => (HPS.out k h1).2.2.2 h2)); replace R2 := Aside0.mk (Kd.R_kept R2.out hk (fun k h1 h2 => (HO0.out k h2).2.2 h1)); replace BK := Aside0.mk (blk_kept BK.out hk (fun h2 => by have := (HO0.out _ h2).2.1; have := HG.out; omega)); replace HK := Aside0.mk (Kept.then_ HK.out hk (fun k h2 => .inl (HO0.out k h2).1)); replace HBW := Aside0.mk hb; clear hb hk; obtain ⟨_, _, _, _, _, _, _, _, _, _⟩ := box5 BK)
  | (refine gL 43 (some 12) Tryz.func43 #[.slice A1 b.f1.length c1, .int .i64 (m + 4 * (b.f0.length : Int))] ?_; refine (markW_at HBW.out R1.out (by have := HM.out; omega) (by have := HM.out; omega) HL.out.2.1 HN.out).mono ?_; rintro e w3 ⟨rfl, hb, hk⟩; refine ⟨_, rfl, ?_⟩; replace R2 := Aside0.mk (Kd.R_kept R2.out hk (fun k h1 h2 => (HPS.out k h2).2.1 h1)); replace BK := Aside0.mk (blk_kept BK.out hk (fun h2 => by have := (HPS.out _ h2).2.2.1; have := HG.out; omega)); replace HK := Aside0.mk (Kept.then_ HK.out hk (fun k h2 => .inl (HPS.out k h2).1)); replace HBW := Aside0.mk hb; clear hb hk R1; obtain ⟨_, _, _, _, _, _, _, _, _, _⟩ := box5 BK)
  | (refine gL 44 (some 16) Tryz.func44 #[.slice A2 b.f2.length c2, .int .i64 (m + 4 * (b.f0.length : Int) + (marksW b.f1 : Int))] ?_; refine (markN_at HBW.out R2.out (by have := HM.out; omega) (by have := HM.out; omega) HL.out.2.2).mono ?_; rintro e w4 ⟨rfl, hb, hk⟩; refine ⟨_, rfl, ?_⟩; replace HK := Aside0.mk (Kept.then_ HK.out hk (fun k h2 => .inl (HO2.out k h2).1)); replace HBW := Aside0.mk hb; clear hb hk))
 go_ret
 exact ⟨rfl, HBW.out, HK.out⟩

end Go.Proofs.YtmnkbchieplicaaGreatDoor.Q
