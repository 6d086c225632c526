/- What the laws do with a block that comes in: its size, its copy, its equality. -/
import Derived.Test.YtmnkbchieplicaaGreatDoorKFnExactFormatBlock36
namespace Go.Proofs.YtmnkbchieplicaaGreatDoor.Q
open Go Go.RowKit Go.Proofs.YtmnkbchieplicaaGreatDoorW.PrintWords Go.Proofs.YtmnkbchieplicaaGreatDoorW.PrintLast Go.Proofs.YtmnkbchieplicaaGreatDoorW.PrintMore
set_option linter.unusedVariables false
set_option linter.unusedSimpArgs false

abbrev LIns := S97
abbrev LFrm := S155
abbrev LWrp := S87
def tI (x : LIns) : MIns := ⟨x.f0, x.f1, x.f2, x.f3⟩
def tF (x : LFrm) : MFrm := ⟨x.f0, x.f1, x.f2⟩
def tW (x : LWrp) : MWrp := ⟨x.f0, x.f1.map tF, x.f2⟩
theorem map_loop {α β : Type} (xs : List α) (f : α → β) (z : β) (za : α) {l : Nat → List β → Nat → Option (List β)} {K0 : Nat}
    (hs : ∀ k ys i, K0 ≤ k → i < xs.length → ys.length = xs.length → l (k + 1) ys i = l k (ys.set i (f (xs.getD i za))) (i + 1)) (he : ∀ k ys, l (k + 1) ys xs.length = some ys) {k : Nat} (hk : xs.length + K0 < k) : l k (List.replicate xs.length z) 0 = some (xs.map f) := by
  have key : ∀ d i k ys, i + d = xs.length → d + K0 < k → ys.length = xs.length → (∀ j, j < i → ys.getD j z = f (xs.getD j za)) → l k ys i = some (xs.map f) := by
    intro d
    induction d with
    | zero =>
      intro i k ys hi hk hl hj
      obtain ⟨k, rfl⟩ : ∃ m, k = m + 1 := ⟨k - 1, by omega⟩
      obtain rfl : i = xs.length := by omega
      rw [he]
      congr 1
      refine getD_ext z (by simpa using hl) fun i hi => ?_
      rw [hj i (by omega), List.getD_eq_getElem?_getD, List.getD_eq_getElem?_getD, List.getElem?_map, List.getElem?_eq_getElem (by omega)]; rfl
    | succ d ih =>
      intro i k ys hi hk hl hj
      obtain ⟨k, rfl⟩ : ∃ m, k = m + 1 := ⟨k - 1, by omega⟩
      rw [hs k ys i (by omega) (by omega) hl]
      refine ih (i + 1) k _ (by omega) (by omega) (by simpa using hl) fun j hj2 => ?_
      rw [List.getD_eq_getElem?_getD, List.getElem?_set]
      by_cases e : i = j
      · subst e; rw [if_pos rfl, if_pos (by omega)]; rfl
      · rw [if_neg e, ← List.getD_eq_getElem?_getD]; exact hj j (by omega)
  exact key xs.length 0 k _ (by omega) (by omega) (by simp) (fun j hj => by omega)
theorem rd165 (xs : List LIns) (i : Nat) : rd_T97 xs (i : Int) = xs.getD i ⟨0, 0, 0, 0⟩ := rfl
theorem rd211 (xs : List LFrm) (i : Nat) : rd_T155 xs (i : Int) = xs.getD i ⟨0, 0, 0⟩ := rfl
theorem rd174 (xs : List LWrp) (i : Nat) : rd_T87 xs (i : Int) = xs.getD i ⟨0, [], []⟩ := rfl
theorem toInsS_f {l : List LIns} (hl : l.length < 1000000000) {k : Nat} (hk : 1000000100 ≤ k) : laws_toInsS.f k l = some (l.map tI) := by
  have h := map_loop l tI z95 ⟨0, 0, 0, 0⟩ (l := fun k ys i => laws_toInsS.l0 k l ys (i : Int)) (K0 := 0) (k := k)
    (fun k ys i _ hi hy => by
      show laws_toInsS.l0 (k + 1) l ys (i : Int) = _
      rw [laws_toInsS.l0.eq_2, if_pos (by omega), if_pos (by omega), rd165, wS (by omega)]
      unfold laws_toIns.f
      rw [Option.bind_some, if_pos (by omega), Int.toNat_natCast]; rfl)
    (fun k ys => by
      show laws_toInsS.l0 (k + 1) l ys (l.length : Int) = _
      rw [laws_toInsS.l0.eq_2, if_neg (by omega)]) (by omega)
  unfold laws_toInsS.f
  rw [if_pos (by omega), Int.toNat_natCast, if_pos (by omega)]
  exact h
theorem toFrmS_f {l : List LFrm} (hl : l.length < 1000000000) {k : Nat} (hk : 1000000100 ≤ k) : laws_toFrameS.f k l = some (l.map tF) := by
  have h := map_loop l tF z132 ⟨0, 0, 0⟩ (l := fun k ys i => laws_toFrameS.l0 k l ys (i : Int)) (K0 := 0) (k := k)
    (fun k ys i _ hi hy => by
      show laws_toFrameS.l0 (k + 1) l ys (i : Int) = _
      rw [laws_toFrameS.l0.eq_2, if_pos (by omega), if_pos (by omega), rd211, wS (by omega)]
      unfold laws_toFrame.f
      rw [Option.bind_some, if_pos (by omega), Int.toNat_natCast]; rfl)
    (fun k ys => by
      show laws_toFrameS.l0 (k + 1) l ys (l.length : Int) = _
      rw [laws_toFrameS.l0.eq_2, if_neg (by omega)]) (by omega)
  unfold laws_toFrameS.f
  rw [if_pos (by omega), Int.toNat_natCast, if_pos (by omega)]
  exact h
theorem toIntS_f {l : List Int} (hl : l.length < 1000000000) {k : Nat} (hk : 1000000100 ≤ k) : laws_toIntS.f k l = some l := by
  have h := map_loop l (fun x : Int => x) 0 0 (l := fun k ys i => laws_toIntS.l0 k l ys (i : Int)) (K0 := 0) (k := k)
    (fun k ys i _ hi hy => by
      show laws_toIntS.l0 (k + 1) l ys (i : Int) = _
      rw [laws_toIntS.l0.eq_2, if_pos (by omega), if_pos (by omega), rdI_, wS (by omega), if_pos (by omega), Int.toNat_natCast])
    (fun k ys => by
      show laws_toIntS.l0 (k + 1) l ys (l.length : Int) = _
      rw [laws_toIntS.l0.eq_2, if_neg (by omega)]) (by omega)
  unfold laws_toIntS.f
  rw [if_pos (by omega), Int.toNat_natCast, if_pos (by omega)]
  rw [List.map_id''] at h
  · exact h
  · intro x; rfl
theorem toWrpS_f {l : List LWrp} (hl : l.length < 1000000000) (hs : ∀ i, i < l.length → (l.getD i ⟨0, [], []⟩).f1.length < 1000000000 ∧ (l.getD i ⟨0, [], []⟩).f2.length < 1000000000) {k : Nat} (hk : 3000000100 ≤ k) : laws_toWarpS.f k l = some (l.map tW) := by
  have h := map_loop l tW z59 ⟨0, [], []⟩ (l := fun k ys i => laws_toWarpS.l0 k l ys (i : Int)) (K0 := 1000000100) (k := k)
    (fun k ys i hk hi hy => by
      show laws_toWarpS.l0 (k + 1) l ys (i : Int) = _
      rw [laws_toWarpS.l0.eq_2, if_pos (by omega), if_pos (by omega), rd174, wS (by omega)]
      unfold laws_toWarp.f
      rw [toFrmS_f (hs i hi).1 hk, Option.bind_some, toIntS_f (hs i hi).2 hk, Option.bind_some, Option.bind_some, if_pos (by omega), Int.toNat_natCast]; rfl)
    (fun k ys => by
      show laws_toWarpS.l0 (k + 1) l ys (l.length : Int) = _
      rw [laws_toWarpS.l0.eq_2, if_neg (by omega)]) (by omega)
  unfold laws_toWarpS.f
  rw [if_pos (by omega), Int.toNat_natCast, if_pos (by omega)]
  exact h
/-- A block of the laws' own that is small enough. -/
structure smallL (c : List LIns) (ws : List LWrp) (m : List Int) : Prop where
  hc : c.length < 1000000000
  hm : m.length < 1000000000
  hw : ws.length < 1000000000
  hr : ∀ i, i < ws.length → (ws.getD i ⟨0, [], []⟩).f1.length < 1000000000 ∧ (ws.getD i ⟨0, [], []⟩).f2.length < 1000000000
theorem smallL.small {c : List LIns} {ws : List LWrp} {m : List Int} (h : smallL c ws m) : smallB (c.map tI) (ws.map tW) m := by
  refine ⟨by simpa using h.hc, h.hm, by simpa using h.hw, fun i hi => ?_⟩
  have hi2 : i < ws.length := by simpa using hi
  have h1 := h.hr i hi2
  rw [List.getD_eq_getElem?_getD, List.getElem?_eq_getElem hi2] at h1
  rw [List.getD_eq_getElem?_getD, List.getElem?_map, List.getElem?_eq_getElem hi2]
  simpa [tW] using h1
theorem toBlock_ev {c : List LIns} {ws : List LWrp} {m : List Int} (h : smallL c ws m) (a b : Int) : Ev (fun k => laws_toBlock.f k c ws m a b) (c.map tI, ws.map tW, m, a, b) := by
  refine ⟨3000000100, fun k hk => ?_⟩
  show laws_toBlock.f k c ws m a b = _
  unfold laws_toBlock.f
  rw [toInsS_f h.hc (by omega), Option.bind_some, toWrpS_f h.hw h.hr hk, Option.bind_some, toIntS_f h.hm (by omega), Option.bind_some]
/-! ### the size -/
theorem szStep {a : Int} {n : Nat} (h0 : 0 ≤ a) (h1 : a ≤ 1048576) (hn : n ≤ maxLen) : wrap64 (a - (n : Int)) = a - (n : Int) := by
  simp only [maxLen] at hn
  unfold wrap64; omega
def okLens (ws : List LWrp) : Prop := ∀ x ∈ ws, x.f1.length ≤ maxLen ∧ x.f2.length ≤ maxLen
theorem szWrp_f {x : LWrp} {a : Int} (h0 : 0 ≤ a) (h1 : a ≤ 1048576) (hf : x.f1.length ≤ maxLen) (hr : x.f2.length ≤ maxLen) : ∃ t, laws_szWarp.f x.f0 x.f1 x.f2 a = some t ∧ (t < 0 ∨ (0 ≤ t ∧ t ≤ 1048576 ∧ x.f1.length ≤ 1048576 ∧ x.f2.length ≤ 1048576)) := by
  unfold laws_szWarp.f laws_szFrameS.f laws_szIntS.f
  rw [szStep h0 h1 hf]
  by_cases c : a - (x.f1.length : Int) < 0
  · rw [if_pos c, Option.bind_some, if_pos (by omega)]; exact ⟨-1, rfl, .inl (by omega)⟩
  · rw [if_neg c, Option.bind_some, if_neg c, szStep (by omega) (by omega) hr]
    by_cases c2 : a - (x.f1.length : Int) - (x.f2.length : Int) < 0
    · rw [if_pos c2, Option.bind_some, if_pos (by omega)]; exact ⟨-1, rfl, .inl (by omega)⟩
    · rw [if_neg c2, Option.bind_some, if_neg c2]; exact ⟨_, rfl, .inr ⟨by omega, by omega, by omega, by omega⟩⟩
theorem szWrps {ws : List LWrp} (ho : okLens ws) (hl : ws.length ≤ 1048576) : ∀ (d i : Nat) (a : Int), i + d = ws.length → 0 ≤ a → a ≤ 1048576 → ∃ t, (∀ k, d < k → laws_szWarpS.l0 k ws a (i : Int) = some t) ∧
    (t < 0 ∨ (0 ≤ t ∧ t ≤ 1048576 ∧ ∀ j, i ≤ j → j < ws.length → (ws.getD j ⟨0, [], []⟩).f1.length ≤ 1048576 ∧ (ws.getD j ⟨0, [], []⟩).f2.length ≤ 1048576)) := by
  intro d
  induction d with
  | zero =>
    intro i a hi h0 h1
    refine ⟨a, fun k hk => ?_, .inr ⟨h0, h1, fun j hj hj2 => by omega⟩⟩
    obtain ⟨k, rfl⟩ : ∃ m, k = m + 1 := ⟨k - 1, by omega⟩
    rw [laws_szWarpS.l0.eq_2, if_neg (by omega)]
  | succ d ih =>
    intro i a hi h0 h1
    have hm := ho (ws.getD i ⟨0, [], []⟩) (by rw [List.getD_eq_getElem?_getD, List.getElem?_eq_getElem (by omega)]; exact List.getElem_mem _)
    obtain ⟨t, e, ht⟩ := szWrp_f (x := ws.getD i ⟨0, [], []⟩) h0 h1 hm.1 hm.2
    rcases ht with ht | ⟨t0, t1, t2, t3⟩
    · refine ⟨-1, fun k hk => ?_, .inl (by omega)⟩
      obtain ⟨k, rfl⟩ : ∃ m, k = m + 1 := ⟨k - 1, by omega⟩
      rw [laws_szWarpS.l0.eq_2, if_pos (by omega), if_pos (by omega), rd174, e, Option.bind_some, if_pos ht]
    · obtain ⟨r, e2, hr⟩ := ih (i + 1) t (by omega) t0 t1
      refine ⟨r, fun k hk => ?_, ?_⟩
      · obtain ⟨k, rfl⟩ : ∃ m, k = m + 1 := ⟨k - 1, by omega⟩
        rw [laws_szWarpS.l0.eq_2, if_pos (by omega), if_pos (by omega), rd174, e, Option.bind_some, if_neg (by omega), wS (by omega)]
        exact e2 k (by omega)
      · rcases hr with hr | ⟨r0, r1, r2⟩
        · exact .inl hr
        · refine .inr ⟨r0, r1, fun j hj hj2 => ?_⟩
          by_cases c : i = j
          · subst c; exact ⟨t2, t3⟩
          · exact r2 j (by omega) hj2
theorem szBlock_ev {c : List LIns} {ws : List LWrp} {m : List Int} (hc : c.length ≤ maxLen) (hw : ws.length ≤ maxLen) (ho : okLens ws) (hm : m.length ≤ maxLen) (a b : Int) : ∃ t, Ev (fun k => laws_szBlock.f k c ws m a b 1048576) t ∧ (t < 0 ∨ (0 ≤ t ∧ t ≤ 1048576 ∧ smallL c ws m ∧ c.length ≤ 1048576 ∧ m.length ≤ 1048576 ∧ ws.length ≤ 1048576 ∧ ∀ i, i < ws.length → (ws.getD i ⟨0, [], []⟩).f1.length ≤ 1048576 ∧ (ws.getD i ⟨0, [], []⟩).f2.length ≤ 1048576)) := by
  have e0 : laws_szInsS.f c 1048576 = some (if 1048576 - (c.length : Int) < 0 then -1 else 1048576 - (c.length : Int)) := by
    unfold laws_szInsS.f
    rw [szStep (by omega) (by omega) hc]
    split <;> rfl
  by_cases c0 : 1048576 - (c.length : Int) < 0
  · refine ⟨-1, ⟨0, fun k _ => ?_⟩, .inl (by omega)⟩
    show laws_szBlock.f k c ws m a b 1048576 = _
    unfold laws_szBlock.f
    rw [e0, if_pos c0, Option.bind_some, if_pos (by omega)]
  rw [if_neg c0] at e0
  obtain ⟨x, hx⟩ : ∃ x, x = 1048576 - (c.length : Int) := ⟨_, rfl⟩
  rw [← hx] at e0
  by_cases c1 : x - (ws.length : Int) < 0
  · refine ⟨-1, ⟨0, fun k _ => ?_⟩, .inl (by omega)⟩
    show laws_szBlock.f k c ws m a b 1048576 = _
    unfold laws_szBlock.f laws_szWarpS.f
    rw [e0, Option.bind_some, if_neg (by omega), szStep (by omega) (by omega) hw, if_pos c1, Option.bind_some, if_pos (by omega)]
  obtain ⟨t, e1, ht⟩ := szWrps ho (by omega) ws.length 0 (x - (ws.length : Int)) (by omega) (by omega) (by omega)
  rcases ht with ht | ⟨t0, t1, t2⟩
  · refine ⟨-1, ⟨ws.length + 1, fun k hk => ?_⟩, .inl (by omega)⟩
    show laws_szBlock.f k c ws m a b 1048576 = _
    have e := e1 k (by omega)
    unfold laws_szBlock.f laws_szWarpS.f
    rw [e0, Option.bind_some, if_neg (by omega), szStep (by omega) (by omega) hw, if_neg c1]
    show ((laws_szWarpS.l0 k ws (x - (ws.length : Int)) ((0 : Nat) : Int)).bind _) = _
    rw [e, Option.bind_some, if_pos ht]
  · by_cases c2 : t - (m.length : Int) < 0
    · refine ⟨-1, ⟨ws.length + 1, fun k hk => ?_⟩, .inl (by omega)⟩
      show laws_szBlock.f k c ws m a b 1048576 = _
      have e := e1 k (by omega)
      unfold laws_szBlock.f laws_szWarpS.f
      rw [e0, Option.bind_some, if_neg (by omega), szStep (by omega) (by omega) hw, if_neg c1]
      show ((laws_szWarpS.l0 k ws (x - (ws.length : Int)) ((0 : Nat) : Int)).bind _) = _
      rw [e, Option.bind_some, if_neg (by omega)]
      unfold laws_szIntS.f
      rw [szStep t0 t1 hm, if_pos c2, Option.bind_some, if_pos (by omega)]
    · refine ⟨t - (m.length : Int), ⟨ws.length + 1, fun k hk => ?_⟩, .inr ⟨by omega, by omega, ⟨by omega, by omega, by omega, fun i hi => ?_⟩, by omega, by omega, by omega, fun i hi => t2 i (by omega) hi⟩⟩
      · show laws_szBlock.f k c ws m a b 1048576 = _
        have e := e1 k (by omega)
        unfold laws_szBlock.f laws_szWarpS.f
        rw [e0, Option.bind_some, if_neg (by omega), szStep (by omega) (by omega) hw, if_neg c1]
        show ((laws_szWarpS.l0 k ws (x - (ws.length : Int)) ((0 : Nat) : Int)).bind _) = _
        rw [e, Option.bind_some, if_neg (by omega)]
        unfold laws_szIntS.f
        rw [szStep t0 t1 hm, if_neg c2, Option.bind_some, if_neg c2]
      · have := t2 i (by omega) hi
        omega
/-! ### equality -/
theorem eqIns_f (x y : MIns) : laws_eqIns.f x.f0 x.f1 x.f2 x.f3 y.f0 y.f1 y.f2 y.f3 = some (!neIns x y) := by
  unfold laws_eqIns.f neIns
  by_cases h0 : x.f0 = y.f0 <;> by_cases h1 : x.f1 = y.f1 <;> by_cases h2 : x.f2 = y.f2 <;> by_cases h3 : x.f3 = y.f3 <;> simp [h0, h1, h2, h3]
theorem eqFrm_f (x y : MFrm) : laws_eqFrame.f x.f0 x.f1 x.f2 y.f0 y.f1 y.f2 = some (!neFrm x y) := by
  unfold laws_eqFrame.f neFrm
  by_cases h0 : x.f0 = y.f0 <;> by_cases h1 : x.f1 = y.f1 <;> by_cases h2 : x.f2 = y.f2 <;> simp [h0, h1, h2]
theorem leqIns_same (xs : List MIns) (hx : xs.length < 1000000000) {k : Nat} (hk : 1000000100 ≤ k) : laws_eqInsS.f k xs xs = some true := by
  obtain ⟨r, h1, h2⟩ := same_loop (l := fun k i => laws_eqInsS.l0 k xs xs (i : Int)) (xs := xs) (ys := xs) (K0 := 0) (e := true) (f := fun i => !neIns (xs.getD i ⟨0, 0, 0, 0⟩) (xs.getD i ⟨0, 0, 0, 0⟩)) ⟨0, 0, 0, 0⟩ rfl (fun i hi => neIns_iff _ _)
    (fun k i hk hi => by
      show laws_eqInsS.l0 (k + 1) xs xs (i : Int) = _
      rw [laws_eqInsS.l0.eq_2, if_pos (by omega), if_pos (by omega), if_pos (by omega), rd128, eqIns_f, Option.bind_some, wS (by omega)])
    (fun k _ => by
      show laws_eqInsS.l0 (k + 1) xs xs (xs.length : Int) = _
      rw [laws_eqInsS.l0.eq_2, if_neg (by omega)])
  unfold laws_eqInsS.f
  rw [if_pos rfl]
  exact (h1 k (by omega)).trans (by rw [h2.2 ⟨rfl, rfl⟩])
theorem leqFrm_same (xs : List MFrm) (hx : xs.length < 1000000000) {k : Nat} (hk : 1000000100 ≤ k) : laws_eqFrameS.f k xs xs = some true := by
  obtain ⟨r, h1, h2⟩ := same_loop (l := fun k i => laws_eqFrameS.l0 k xs xs (i : Int)) (xs := xs) (ys := xs) (K0 := 0) (e := true) (f := fun i => !neFrm (xs.getD i ⟨0, 0, 0⟩) (xs.getD i ⟨0, 0, 0⟩)) ⟨0, 0, 0⟩ rfl (fun i hi => neFrm_iff _ _)
    (fun k i hk hi => by
      show laws_eqFrameS.l0 (k + 1) xs xs (i : Int) = _
      rw [laws_eqFrameS.l0.eq_2, if_pos (by omega), if_pos (by omega), if_pos (by omega), rd117, eqFrm_f, Option.bind_some, wS (by omega)])
    (fun k _ => by
      show laws_eqFrameS.l0 (k + 1) xs xs (xs.length : Int) = _
      rw [laws_eqFrameS.l0.eq_2, if_neg (by omega)])
  unfold laws_eqFrameS.f
  rw [if_pos rfl]
  exact (h1 k (by omega)).trans (by rw [h2.2 ⟨rfl, rfl⟩])
theorem leqInt_same (xs : List Int) (hx : xs.length < 1000000000) {k : Nat} (hk : 1000000100 ≤ k) : laws_eqIntS.f k xs xs = some true := by
  obtain ⟨r, h1, h2⟩ := same_loop (l := fun k i => laws_eqIntS.l0 k xs xs (i : Int)) (xs := xs) (ys := xs) (K0 := 0) (e := true) (f := fun i => true) 0 rfl (fun i hi => by simp)
    (fun k i hk hi => by
      show laws_eqIntS.l0 (k + 1) xs xs (i : Int) = _
      rw [laws_eqIntS.l0.eq_2, if_pos (by omega), if_pos (by omega), if_pos (by omega), if_pos rfl, wS (by omega), if_pos rfl])
    (fun k _ => by
      show laws_eqIntS.l0 (k + 1) xs xs (xs.length : Int) = _
      rw [laws_eqIntS.l0.eq_2, if_neg (by omega)])
  unfold laws_eqIntS.f
  rw [if_pos rfl]
  exact (h1 k (by omega)).trans (by rw [h2.2 ⟨rfl, rfl⟩])
theorem leqWrps_same {c : List MIns} {m : List Int} {xs : List MWrp} (h : smallB c xs m) {k : Nat} (hk : 3000000100 ≤ k) : laws_eqWarpS.f k xs xs = some true := by
  have hx := h.hw
  obtain ⟨r, h1, h2⟩ := same_loop (l := fun k i => laws_eqWarpS.l0 k xs xs (i : Int)) (xs := xs) (ys := xs) (K0 := 1000000100) (e := true) (f := fun i => true) ⟨0, [], []⟩ rfl (fun i hi => by simp)
    (fun k i hk hi => by
      show laws_eqWarpS.l0 (k + 1) xs xs (i : Int) = _
      have hw := small_w h i hi
      rw [laws_eqWarpS.l0.eq_2, if_pos (by omega), if_pos (by omega), if_pos (by omega), rd41]
      unfold laws_eqWarp.f
      rw [if_pos rfl, leqFrm_same _ hw.1 hk, Option.bind_some, if_pos rfl, leqInt_same _ hw.2 hk, Option.bind_some, if_pos rfl, Option.bind_some, if_pos rfl, if_pos rfl, wS (by omega)])
    (fun k _ => by
      show laws_eqWarpS.l0 (k + 1) xs xs (xs.length : Int) = _
      rw [laws_eqWarpS.l0.eq_2, if_neg (by omega)])
  unfold laws_eqWarpS.f
  rw [if_pos rfl]
  exact (h1 k (by omega)).trans (by rw [h2.2 ⟨rfl, rfl⟩])
theorem leqBlk_same {x : MBlk} (h : smallB x.f0 x.f1 x.f2) : Ev (fun k => laws_eqBlock.f k x.f0 x.f1 x.f2 x.f3 x.f4 x.f0 x.f1 x.f2 x.f3 x.f4) true := by
  refine ⟨3000000100, fun k hk => ?_⟩
  show laws_eqBlock.f k x.f0 x.f1 x.f2 x.f3 x.f4 x.f0 x.f1 x.f2 x.f3 x.f4 = _
  unfold laws_eqBlock.f
  rw [leqIns_same _ h.hc (by omega), Option.bind_some, if_pos rfl, leqWrps_same h hk, Option.bind_some, if_pos rfl, leqInt_same _ h.hm (by omega), Option.bind_some, if_pos rfl, if_pos rfl, if_pos rfl]

end Go.Proofs.YtmnkbchieplicaaGreatDoor.Q
