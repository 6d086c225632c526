/- FormatBlock: the reference's and the program's report are the same six texts. -/
import Derived.Test.YtmnkbchieplicaaGreatDoorKFnExactFormatBlock43
namespace Go.Proofs.YtmnkbchieplicaaGreatDoor.Q
open Go Go.RowKit Go.Proofs.YtmnkbchieplicaaGreatDoorW.PrintWords Go.Proofs.YtmnkbchieplicaaGreatDoorW.PrintLast Go.Proofs.YtmnkbchieplicaaGreatDoorW.PrintMore
set_option linter.unusedVariables false
set_option linter.unusedSimpArgs false

def endC : List MWrp → Nat
  | [] => 0
  | x :: r => (if x.f1.isEmpty then 1 else 0) + endC r
def sumM : List Int → Int
  | [] => 0
  | x :: r => x + sumM r
theorem endC_le (l : List MWrp) : endC l ≤ l.length := by
  induction l with
  | nil => exact Nat.le_refl _
  | cons x r ih => simp only [endC, List.length_cons]; split <;> omega
theorem sumM_le (l : List Int) (h : ∀ x ∈ l, isW x) : 0 ≤ sumM l ∧ sumM l ≤ 65535 * (l.length : Int) := by
  induction l with
  | nil => exact ⟨Int.le_refl _, Int.le_refl _⟩
  | cons x r ih =>
    have h1 := ih fun y hy => h y (List.mem_cons_of_mem _ hy)
    have h2 := h x (List.mem_cons_self ..)
    unfold isW at h2
    simp only [sumM, List.length_cons]
    omega
theorem endC_drop {ws : List MWrp} {i : Nat} (h : i < ws.length) : endC (ws.drop i) = (if (ws.getD i ⟨0, [], []⟩).f1.isEmpty then 1 else 0) + endC (ws.drop (i + 1)) := by
  rw [List.drop_eq_getElem_cons h, List.getD_eq_getElem?_getD, List.getElem?_eq_getElem h]; rfl
theorem sumM_drop {l : List Int} {i : Nat} (h : i < l.length) : sumM (l.drop i) = l.getD i 0 + sumM (l.drop (i + 1)) := by
  rw [List.drop_eq_getElem_cons h, List.getD_eq_getElem?_getD, List.getElem?_eq_getElem h]; rfl
theorem wAdd {x y : Int} (h0 : 0 ≤ x + y) (h1 : x + y ≤ 1000000000) : wrap64 (x + y) = x + y := by unfold wrap64; omega
theorem empLen {ws : List MWrp} {i : Nat} : (((rd_T59 ws (i : Int)).f1.length : Int) = 0) ↔ (ws.getD i ⟨0, [], []⟩).f1.isEmpty = true := by
  rw [rd41]; cases (ws.getD i ⟨0, [], []⟩).f1 <;> simp <;> omega

theorem sE_ev {c : List MIns} {ws : List MWrp} {m : List Int} {a b : Int} {r : List ByteArray} (hl : ws.length ≤ 1000) (h : Ev (fun k => spec_FormatBlock.l1 k (endC ws : Int) 0 0 c ws m a b) r) : ∀ d (i : Nat) (x : Nat), i + d = ws.length → x + endC (ws.drop i) = endC ws → Ev (fun k => spec_FormatBlock.l0 k (x : Int) (i : Int) c ws m a b) r := by
  intro d
  induction d with
  | zero =>
    intro i x hi hx
    obtain rfl : i = ws.length := by omega
    rw [List.drop_of_length_le (by omega)] at hx
    obtain rfl : x = endC ws := by simpa [endC] using hx
    exact Ev.step (fun k => by rw [spec_FormatBlock.l0.eq_2, if_neg (by omega)]) h
  | succ d ih =>
    intro i x hi hx
    rw [endC_drop (by omega)] at hx
    have := endC_le ws
    by_cases e : (ws.getD i ⟨0, [], []⟩).f1.isEmpty = true
    · rw [if_pos e] at hx
      refine Ev.step (fun k => ?_) (ih (i + 1) (x + 1) (by omega) (by omega))
      rw [spec_FormatBlock.l0.eq_2, if_pos (by omega), if_pos (by omega), if_pos (empLen.2 e), wS (by omega), wAdd (by omega) (by omega)]
      rfl
    · rw [if_neg e] at hx
      refine Ev.step (fun k => ?_) (ih (i + 1) x (by omega) (by omega))
      rw [spec_FormatBlock.l0.eq_2, if_pos (by omega), if_pos (by omega), if_neg (fun h => e (empLen.1 h)), wS (by omega)]
theorem iE_ev {c : List MIns} {ws : List MWrp} {m : List Int} {a b : Int} {r : List ByteArray} (hl : ws.length ≤ 1000) (h : Ev (fun k => impl_FormatBlock.l1 k (endC ws : Int) 0 m (m.length : Int) 0 c ws m a b) r) : ∀ d (i : Nat) (x : Nat), i + d = ws.length → x + endC (ws.drop i) = endC ws → Ev (fun k => impl_FormatBlock.l0 k (x : Int) 0 ws (ws.length : Int) (i : Int) c ws m a b) r := by
  intro d
  induction d with
  | zero =>
    intro i x hi hx
    obtain rfl : i = ws.length := by omega
    rw [List.drop_of_length_le (by omega)] at hx
    obtain rfl : x = endC ws := by simpa [endC] using hx
    exact Ev.step (fun k => by rw [impl_FormatBlock.l0.eq_2, if_neg (by omega)]) h
  | succ d ih =>
    intro i x hi hx
    rw [endC_drop (by omega)] at hx
    have := endC_le ws
    by_cases e : (ws.getD i ⟨0, [], []⟩).f1.isEmpty = true
    · rw [if_pos e] at hx
      refine Ev.step (fun k => ?_) (ih (i + 1) (x + 1) (by omega) (by omega))
      rw [impl_FormatBlock.l0.eq_2, if_pos (by omega), if_pos (by omega), if_pos (by omega), if_pos (empLen.2 e), wS (by omega), wAdd (by omega) (by omega)]
      rfl
    · rw [if_neg e] at hx
      refine Ev.step (fun k => ?_) (ih (i + 1) x (by omega) (by omega))
      rw [impl_FormatBlock.l0.eq_2, if_pos (by omega), if_pos (by omega), if_pos (by omega), if_neg (fun h => e (empLen.1 h)), wS (by omega)]
theorem sS_ev {c : List MIns} {ws : List MWrp} {m : List Int} {a b y : Int} {r : List ByteArray} {g : Nat → Option (List ByteArray)} (hl : m.length ≤ 1000) (hm : ∀ x ∈ m, isW x)
    (hg : ∀ k, spec_FormatBlock.l1 (k + 1) y (sumM m) (m.length : Int) c ws m a b = g k) (h : Ev g r) : ∀ d (i : Nat) (x : Int), i + d = m.length → x + sumM (m.drop i) = sumM m → 0 ≤ x → Ev (fun k => spec_FormatBlock.l1 k y x (i : Int) c ws m a b) r := by
  intro d
  induction d with
  | zero =>
    intro i x hi hx h0
    obtain rfl : i = m.length := by omega
    rw [List.drop_of_length_le (by omega)] at hx
    obtain rfl : x = sumM m := by simpa [sumM] using hx
    exact Ev.step hg h
  | succ d ih =>
    intro i x hi hx h0
    have hb := sumM_le m hm
    have hd := sumM_le (m.drop (i + 1)) fun x hx => hm x (List.mem_of_mem_drop hx)
    rw [sumM_drop (by omega)] at hx
    have hw : isW (m.getD i 0) := by
      rw [List.getD_eq_getElem?_getD, List.getElem?_eq_getElem (by omega)]
      exact hm _ (List.getElem_mem _)
    unfold isW at hw
    refine Ev.step (fun k => ?_) (ih (i + 1) (x + m.getD i 0) (by omega) (by omega) (by omega))
    rw [spec_FormatBlock.l1.eq_2, if_pos (by omega), if_pos (by omega), rdI_, wS (by omega), wAdd (by omega) (by omega)]
theorem iS_ev {c : List MIns} {ws : List MWrp} {m : List Int} {a b y : Int} {r : List ByteArray} {g : Nat → Option (List ByteArray)} (hl : m.length ≤ 1000) (hm : ∀ x ∈ m, isW x)
    (hg : ∀ k, impl_FormatBlock.l1 (k + 1) y (sumM m) m (m.length : Int) (m.length : Int) c ws m a b = g k) (h : Ev g r) : ∀ d (i : Nat) (x : Int), i + d = m.length → x + sumM (m.drop i) = sumM m → 0 ≤ x → Ev (fun k => impl_FormatBlock.l1 k y x m (m.length : Int) (i : Int) c ws m a b) r := by
  intro d
  induction d with
  | zero =>
    intro i x hi hx h0
    obtain rfl : i = m.length := by omega
    rw [List.drop_of_length_le (by omega)] at hx
    obtain rfl : x = sumM m := by simpa [sumM] using hx
    exact Ev.step hg h
  | succ d ih =>
    intro i x hi hx h0
    have hb := sumM_le m hm
    have hd := sumM_le (m.drop (i + 1)) fun x hx => hm x (List.mem_of_mem_drop hx)
    rw [sumM_drop (by omega)] at hx
    have hw : isW (m.getD i 0) := by
      rw [List.getD_eq_getElem?_getD, List.getElem?_eq_getElem (by omega)]
      exact hm _ (List.getElem_mem _)
    unfold isW at hw
    refine Ev.step (fun k => ?_) (ih (i + 1) (x + m.getD i 0) (by omega) (by omega) (by omega))
    rw [impl_FormatBlock.l1.eq_2, if_pos (by omega), if_pos (by omega), if_pos (by omega), rdI_, wS (by omega), wAdd (by omega) (by omega)]

/-- No warp can go on, from the i-th on. -/
def noneCan (b : MBlk) : Nat → Nat → Bool
  | _, 0 => true
  | i, d + 1 => !canM b i && noneCan b (i + 1) d
theorem sI_ev {b : MBlk} (hb : blkV b) : ∀ d (i : Nat), i + d = b.f1.length → Ev (fun k => spec_IsStuck.l0 k (i : Int) b.f0 b.f1 b.f2 b.f3 b.f4) (noneCan b i d) := by
  have hl := hb.2.1
  intro d
  induction d with
  | zero =>
    intro i hi
    exact Ev.step (f := fun _ => some true) (fun k => by rw [spec_IsStuck.l0.eq_2, if_neg (by omega)]) (Ev.now _)
  | succ d ih =>
    intro i hi
    refine Ev.step (fun k => by rw [spec_IsStuck.l0.eq_2, if_pos (by omega), wS (by omega)]) ?_
    refine Ev.bind (a := canM b i) ⟨14, fun k hk => scan_f hb i (by omega) hk⟩ ?_
    cases hc : canM b i
    · refine Ev.congr (fun k => if_neg (by simp)) ?_
      simp only [noneCan, hc, Bool.not_false, Bool.true_and]
      exact ih (i + 1) (by omega)
    · refine Ev.congr (fun k => if_pos rfl) ?_
      simp only [noneCan, hc, Bool.not_true, Bool.false_and]
      exact Ev.now _
theorem iI_ev {b : MBlk} (hb : blkV b) : ∀ d (i : Nat), i + d = b.f1.length → Ev (fun k => impl_IsStuck.l0 k (b.f1.length : Int) (i : Int) b.f0 b.f1 b.f2 b.f3 b.f4) (noneCan b i d) := by
  have hl := hb.2.1
  intro d
  induction d with
  | zero =>
    intro i hi
    exact Ev.step (f := fun _ => some true) (fun k => by rw [impl_IsStuck.l0.eq_2, if_neg (by omega)]) (Ev.now _)
  | succ d ih =>
    intro i hi
    refine Ev.step (fun k => by rw [impl_IsStuck.l0.eq_2, if_pos (by omega), wS (by omega)]) ?_
    refine Ev.bind (a := canM b i) ⟨2, fun k hk => by obtain ⟨m, rfl⟩ : ∃ m, k = m + 2 := ⟨k - 2, by omega⟩; exact canStep_f hb i (by omega) m⟩ ?_
    cases hc : canM b i
    · refine Ev.congr (fun k => if_neg (by simp)) ?_
      simp only [noneCan, hc, Bool.not_false, Bool.true_and]
      exact ih (i + 1) (by omega)
    · refine Ev.congr (fun k => if_pos rfl) ?_
      simp only [noneCan, hc, Bool.not_true, Bool.false_and]
      exact Ev.now _
def isStuckM (b : MBlk) : Bool := !(b.f1.all fun w => w.f1.isEmpty) && noneCan b 0 b.f1.length
theorem okS {b : MBlk} (hb : blkV b) : Ev (fun k => spec_BlockOk.f k b.f0 b.f1 b.f2 b.f3 b.f4) true := by
  have := sblockOk_ev b (by have := (small_V hb).hc; omega)
  rwa [(blkB_iff b).2 hb] at this
theorem okI {b : MBlk} (hb : blkV b) : Ev (fun k => impl_BlockOk.f k b.f0 b.f1 b.f2 b.f3 b.f4) true := by
  have := blockOk_ev b fun k hk => by have := ((small_V hb).hr k hk).1; omega
  rwa [(blkB_iff b).2 hb] at this
theorem sstuck_ev {b : MBlk} (hb : blkV b) : Ev (fun k => spec_IsStuck.f k b.f0 b.f1 b.f2 b.f3 b.f4) (isStuckM b) := by
  refine Ev.bind (f := fun k t12 => (if t12 = true then ((spec_l29Ended.f k b.f0 b.f1 b.f2 b.f3 b.f4).bind fun t13 => (spec_IsStuck.j0 k t13 b.f0 b.f1 b.f2 b.f3 b.f4)) else (spec_IsStuck.j0 k true b.f0 b.f1 b.f2 b.f3 b.f4))) (okS hb) ?_
  refine Ev.congr (fun k => if_pos rfl) ?_
  refine Ev.bind (sended_ev (small_V hb).hw) ?_
  unfold isStuckM
  cases (b.f1.all fun w => w.f1.isEmpty)
  · refine Ev.step (fun k => by rw [spec_IsStuck.j0.eq_2, if_neg (by simp)]) ?_
    simpa using sI_ev hb b.f1.length 0 (by omega)
  · exact Ev.step (f := fun _ => some false) (fun k => by rw [spec_IsStuck.j0.eq_2, if_pos rfl]) (Ev.now _)
theorem istuck_ev {b : MBlk} (hb : blkV b) : Ev (fun k => impl_IsStuck.f k b.f0 b.f1 b.f2 b.f3 b.f4) (isStuckM b) := by
  refine Ev.bind (f := fun k t12 => (if t12 = true then ((impl_Block_ended.f k b.f0 b.f1 b.f2 b.f3 b.f4).bind fun t13 => (impl_IsStuck.j0 k t13 b.f0 b.f1 b.f2 b.f3 b.f4)) else (impl_IsStuck.j0 k true b.f0 b.f1 b.f2 b.f3 b.f4))) (okI hb) ?_
  refine Ev.congr (fun k => if_pos rfl) ?_
  refine Ev.bind (iended_ev (small_V hb).hw) ?_
  unfold isStuckM
  cases (b.f1.all fun w => w.f1.isEmpty)
  · refine Ev.step (fun k => by rw [impl_IsStuck.j0.eq_2, if_neg (by simp)]) ?_
    simpa using iI_ev hb b.f1.length 0 (by omega)
  · exact Ev.step (f := fun _ => some false) (fun k => by rw [impl_IsStuck.j0.eq_2, if_pos rfl]) (Ev.now _)

/-- The operation that comes next of a warp; -1: it has ended. -/
def nextOpM (b : MBlk) (i : Nat) : Int := if (wrpM b i).f1 = [] then -1 else (nextI b i).f0
theorem wrL {n : Nat} (h : n ≤ 1000) : wrap64 ((n : Int) - 1) = (n : Int) - 1 := by unfold wrap64; omega
theorem snextI_f {b : MBlk} (hb : blkV b) (w : Nat) (hw : w < b.f1.length) (hne : (wrpM b w).f1 ≠ []) : spec_l30Next.f b.f0 b.f1 b.f2 b.f3 b.f4 (w : Int) = some ((nextI b w).f0, (nextI b w).f1, (nextI b w).f2, (nextI b w).f3) := by
  have hwv := (hb.2.2.2.2.2 w hw).1
  have hpos : 0 < (wrpM b w).f1.length := List.length_pos_iff.mpr hne
  have hlen : (wrpM b w).f1.length ≤ 24 := hwv.2.2.1.1
  have htop := top_pc hwv.2.2 hne
  unfold spec_l30Next.f
  rw [rdW, if_pos (by omega), if_pos (by omega), rdF hne (by omega), wrapLen (by omega) hpos, if_pos (by omega), if_pos (by omega), if_pos htop.1, if_pos htop.2, rdI]
  rfl
theorem sop_ev {b : MBlk} (hb : blkV b) {i : Nat} (hi : i < b.f1.length) : Ev (fun k => spec_NextOp.f k b.f0 b.f1 b.f2 b.f3 b.f4 (i : Int)) (nextOpM b i) := by
  have hl := hb.2.1
  have hr : inR 0 ((b.f1.length : Int) - 1) (i : Int) = true := (inR_iff _ _ _).2 ⟨by omega, by omega⟩
  have h1 : Ev (fun k => spec_l30Ok.f k b.f0 b.f1 b.f2 b.f3 b.f4 (i : Int)) true := by
    refine Ev.bind (f := fun k t12 => (if t12 = true then ((spec_l01In.f (i : Int) 0 (wrap64 ((b.f1.length : Int) - 1))).bind fun t13 => (some t13)) else (some false))) (okS hb) ?_
    refine Ev.congr (fun k => if_pos rfl) ?_
    rw [wrL (by omega), l01In_f, hr]
    exact Ev.now _
  unfold nextOpM
  obtain ⟨K, hK⟩ := h1
  refine ⟨K, fun k hk => ?_⟩
  show spec_NextOp.f k b.f0 b.f1 b.f2 b.f3 b.f4 (i : Int) = _
  unfold spec_NextOp.f
  rw [show spec_l30Ok.f k b.f0 b.f1 b.f2 b.f3 b.f4 (i : Int) = some true from hK k hk, Option.bind_some, if_pos rfl, if_pos (by omega), if_pos (by omega), rdW]
  by_cases hne : (wrpM b i).f1 = []
  · rw [if_pos hne, if_pos (by rw [hne]; rfl)]
  · have hpos : 0 < (wrpM b i).f1.length := List.length_pos_iff.mpr hne
    rw [if_neg hne, if_neg (by omega), snextI_f hb i hi hne]; rfl
theorem iop_ev {b : MBlk} (hb : blkV b) {i : Nat} (hi : i < b.f1.length) : Ev (fun k => impl_NextOp.f k b.f0 b.f1 b.f2 b.f3 b.f4 (i : Int)) (nextOpM b i) := by
  have hl := hb.2.1
  have hr : inR 0 ((b.f1.length : Int) - 1) (i : Int) = true := (inR_iff _ _ _).2 ⟨by omega, by omega⟩
  have h1 : Ev (fun k => impl_hasWarp.f k b.f0 b.f1 b.f2 b.f3 b.f4 (i : Int)) true := by
    refine Ev.bind (f := fun k t12 => (if t12 = true then ((impl_within.f (i : Int) 0 (wrap64 ((b.f1.length : Int) - 1))).bind fun t13 => (some t13)) else (some false))) (okI hb) ?_
    refine Ev.congr (fun k => if_pos rfl) ?_
    rw [wrL (by omega), within_f, hr]
    exact Ev.now _
  unfold nextOpM
  obtain ⟨K, hK⟩ := h1
  refine ⟨K, fun k hk => ?_⟩
  show impl_NextOp.f k b.f0 b.f1 b.f2 b.f3 b.f4 (i : Int) = _
  unfold impl_NextOp.f
  rw [show impl_hasWarp.f k b.f0 b.f1 b.f2 b.f3 b.f4 (i : Int) = some true from hK k hk, Option.bind_some, if_pos rfl, nextIns_f hb i hi, Option.bind_some]
  by_cases hne : (wrpM b i).f1 = []
  · rw [if_pos hne, if_pos hne]; rfl
  · rw [if_neg hne, if_neg hne]; rfl
def splitB (b : MBlk) (i : Nat) : Bool := nextOpM b i == 16 && decide (((wrpM b i).f1.length : Int) > 1)
theorem ssplit_ev {b : MBlk} (hb : blkV b) {i : Nat} (hi : i < b.f1.length) : Ev (fun k => spec_IsSplitBarrier.f k b.f0 b.f1 b.f2 b.f3 b.f4 (i : Int)) (splitB b i) := by
  obtain ⟨K, hK⟩ := sop_ev hb hi
  refine ⟨K, fun k hk => ?_⟩
  show spec_IsSplitBarrier.f k b.f0 b.f1 b.f2 b.f3 b.f4 (i : Int) = _
  unfold spec_IsSplitBarrier.f spec_AtBarrier.f splitB
  rw [show spec_NextOp.f k b.f0 b.f1 b.f2 b.f3 b.f4 (i : Int) = some (nextOpM b i) from hK k hk, Option.bind_some, Option.bind_some]
  cases (nextOpM b i == 16)
  · rw [if_neg (by simp)]; rfl
  · rw [if_pos rfl, if_pos (by omega), if_pos (by omega), rdW]; rfl
theorem isplit_ev {b : MBlk} (hb : blkV b) {i : Nat} (hi : i < b.f1.length) : Ev (fun k => impl_IsSplitBarrier.f k b.f0 b.f1 b.f2 b.f3 b.f4 (i : Int)) (splitB b i) := by
  obtain ⟨K, hK⟩ := iop_ev hb hi
  refine ⟨K, fun k hk => ?_⟩
  show impl_IsSplitBarrier.f k b.f0 b.f1 b.f2 b.f3 b.f4 (i : Int) = _
  unfold impl_IsSplitBarrier.f impl_AtBarrier.f splitB
  rw [show impl_NextOp.f k b.f0 b.f1 b.f2 b.f3 b.f4 (i : Int) = some (nextOpM b i) from hK k hk, Option.bind_some, Option.bind_some]
  cases (nextOpM b i == 16)
  · rw [if_neg (by simp)]; rfl
  · rw [if_pos rfl, if_pos (by omega), if_pos (by omega), rdW]; rfl
def why (b : MBlk) : Nat → Nat → ByteArray
  | _, 0 => ⟨#[102, 114, 97, 109, 101, 115]⟩
  | i, d + 1 => if splitB b i = true then ⟨#[115, 112, 108, 105, 116]⟩ else why b (i + 1) d
theorem why_size (b : MBlk) : ∀ d i, (why b i d).size ≤ 6 := by
  intro d
  induction d with
  | zero => intro i; exact (by decide : (6 : Nat) ≤ 6)
  | succ d ih => intro i; unfold why; split; exact (by decide : (5 : Nat) ≤ 6); exact ih _
theorem sR_ev {b : MBlk} (hb : blkV b) : ∀ d (i : Nat), i + d = b.f1.length → Ev (fun k => spec_StuckReason.l0 k (i : Int) b.f0 b.f1 b.f2 b.f3 b.f4) (why b i d) := by
  have hl := hb.2.1
  intro d
  induction d with
  | zero => intro i hi; exact Ev.step (f := fun _ => some (why b i 0)) (fun k => by rw [spec_StuckReason.l0.eq_2, if_neg (by omega)]; rfl) (Ev.now _)
  | succ d ih =>
    intro i hi
    refine Ev.step (fun k => by rw [spec_StuckReason.l0.eq_2, if_pos (by omega), wS (by omega)]) ?_
    refine Ev.bind (ssplit_ev hb (by omega)) ?_
    unfold why
    by_cases hc : splitB b i = true
    · rw [if_pos hc]; exact Ev.congr (fun k => if_pos hc) (Ev.now _)
    · rw [if_neg hc]; exact Ev.congr (fun k => if_neg hc) (ih (i + 1) (by omega))
theorem iR_ev {b : MBlk} (hb : blkV b) : ∀ d (i : Nat), i + d = b.f1.length → Ev (fun k => impl_StuckReason.l0 k (b.f1.length : Int) (i : Int) b.f0 b.f1 b.f2 b.f3 b.f4) (why b i d) := by
  have hl := hb.2.1
  intro d
  induction d with
  | zero => intro i hi; exact Ev.step (f := fun _ => some (why b i 0)) (fun k => by rw [impl_StuckReason.l0.eq_2, if_neg (by omega)]; rfl) (Ev.now _)
  | succ d ih =>
    intro i hi
    refine Ev.step (fun k => by rw [impl_StuckReason.l0.eq_2, if_pos (by omega), wS (by omega)]) ?_
    refine Ev.bind (isplit_ev hb (by omega)) ?_
    unfold why
    by_cases hc : splitB b i = true
    · rw [if_pos hc]; exact Ev.congr (fun k => if_pos hc) (Ev.now _)
    · rw [if_neg hc]; exact Ev.congr (fun k => if_neg hc) (ih (i + 1) (by omega))
theorem swhy_ev {b : MBlk} (hb : blkV b) (h : isStuckM b = true) : Ev (fun k => spec_StuckReason.f k b.f0 b.f1 b.f2 b.f3 b.f4) (why b 0 b.f1.length) := by
  refine Ev.bind (f := fun k t12 => (if t12 = true then (spec_StuckReason.l0 k 0 b.f0 b.f1 b.f2 b.f3 b.f4) else (some (⟨#[]⟩ : ByteArray)))) (sstuck_ev hb) ?_
  exact Ev.congr (fun k => if_pos h) (sR_ev hb b.f1.length 0 (by omega))
theorem iwhy_ev {b : MBlk} (hb : blkV b) (h : isStuckM b = true) : Ev (fun k => impl_StuckReason.f k b.f0 b.f1 b.f2 b.f3 b.f4) (why b 0 b.f1.length) := by
  refine Ev.bind (f := fun k t12 => (if t12 = true then (impl_StuckReason.l0 k (b.f1.length : Int) 0 b.f0 b.f1 b.f2 b.f3 b.f4) else (some (⟨#[]⟩ : ByteArray)))) (istuck_ev hb) ?_
  exact Ev.congr (fun k => if_pos h) (iR_ev hb b.f1.length 0 (by omega))

/-- The last text: how the block stands. -/
def stateM (b : MBlk) : ByteArray := if (b.f1.all fun w => w.f1.isEmpty) = true then ⟨#[100, 111, 110, 101]⟩ else if isStuckM b = true then (⟨#[115, 116, 117, 99, 107, 32]⟩ : ByteArray) ++ why b 0 b.f1.length else ⟨#[114, 117, 110, 110, 105, 110, 103]⟩
def reportM (b : MBlk) : List ByteArray := [(⟨#[119, 97, 114, 112, 115, 32]⟩ : ByteArray) ++ decB b.f1.length, (⟨#[101, 110, 100, 101, 100, 32]⟩ : ByteArray) ++ decB (endC b.f1), (⟨#[119, 97, 105, 116, 105, 110, 103, 32]⟩ : ByteArray) ++ decB b.f3, (⟨#[112, 104, 97, 115, 101, 32]⟩ : ByteArray) ++ decB b.f4, (⟨#[115, 117, 109, 32]⟩ : ByteArray) ++ decB (sumM b.f2 % 65536), stateM b]
theorem sdec {n : Int} (h0 : 0 ≤ n) (h1 : n ≤ 1000000000) : spec_FormatInt.f n = some (decB n) := by unfold spec_FormatInt.f; rw [if_pos ⟨h0, h1⟩]
theorem idec {n : Int} (h0 : 0 ≤ n) (h1 : n ≤ 1000000000) : impl_FormatInt.f n = some (decB n) := by unfold impl_FormatInt.f; rw [if_pos ⟨by omega, by omega⟩]; rfl
theorem swrapS {n : Int} (h0 : 0 ≤ n) (h1 : n ≤ 1000000000) : spec_WrapWord.f n = some (n % 65536) := by
  unfold spec_WrapWord.f
  congr 1
  rw [Int.tmod_eq_emod_of_nonneg h0, show wrap64 (n % 65536 + 65536) = n % 65536 + 65536 by unfold wrap64; omega, Int.tmod_eq_emod_of_nonneg (by omega)]
  omega
theorem iwrapS {n : Int} (h0 : 0 ≤ n) (h1 : n ≤ 1000000000) : impl_WrapWord.f n = some (n % 65536) := by
  obtain ⟨n, rfl⟩ := Int.eq_ofNat_of_zero_le h0
  unfold impl_WrapWord.f
  rw [show (65535 : Int) = ((65535 : Nat) : Int) from rfl, and_i64 (by omega) (by decide), show (65535 : Nat) = 2 ^ 16 - 1 from rfl, Nat.and_two_pow_sub_one_eq_mod]
  congr 1
theorem nums_ok {b : MBlk} (hb : blkV b) : (0 ≤ (b.f1.length : Int) ∧ (b.f1.length : Int) ≤ 1000000000) ∧ (0 ≤ (endC b.f1 : Int) ∧ (endC b.f1 : Int) ≤ 1000000000) ∧ (0 ≤ b.f3 ∧ b.f3 ≤ 1000000000) ∧ (0 ≤ b.f4 ∧ b.f4 ≤ 1000000000) ∧ (0 ≤ sumM b.f2 ∧ sumM b.f2 ≤ 1000000000) := by
  have hl := hb.2.1
  have he := endC_le b.f1
  have hs := sumM_le b.f2 hb.2.2.1.2
  have h32 := hb.2.2.1.1
  have h3 := hb.2.2.2.1
  have h4 := hb.2.2.2.2.1
  have h8 : (2 : Nat) ^ b.f1.length ≤ 2 ^ 3 := Nat.pow_le_pow_right (by decide) hl.2
  have e8 : (2 : Nat) ^ 3 = 8 := rfl
  refine ⟨⟨by omega, by omega⟩, ⟨by omega, by omega⟩, ⟨h3.1, by have := h3.2; omega⟩, ⟨h4.1, by omega⟩, ⟨hs.1, by omega⟩⟩
theorem sJ3_ev {b : MBlk} (hb : blkV b) (t : ByteArray) : Ev (fun k => spec_FormatBlock.j3 k (endC b.f1 : Int) (sumM b.f2) t b.f0 b.f1 b.f2 b.f3 b.f4) ((reportM b).take 5 ++ [t]) := by
  obtain ⟨h1, h2, h3, h4, h5⟩ := nums_ok hb
  have z1 := decB_size _ h1.1 h1.2
  have z2 := decB_size _ h2.1 h2.2
  have z3 := decB_size _ h3.1 h3.2
  have z4 := decB_size _ h4.1 h4.2
  have z5 := decB_size (sumM b.f2 % 65536) (by omega) (by omega)
  refine Ev.step (f := fun _ => some ((reportM b).take 5 ++ [t])) (fun k => ?_) (Ev.now _)
  rw [spec_FormatBlock.j3.eq_2, sdec h1.1 h1.2, Option.bind_some, if_pos (by omega), sdec h2.1 h2.2, Option.bind_some, if_pos (by omega), sdec h3.1 h3.2, Option.bind_some, if_pos (by omega), sdec h4.1 h4.2, Option.bind_some, if_pos (by omega),
    swrapS h5.1 h5.2, Option.bind_some, sdec (by omega) (by omega), Option.bind_some, if_pos (by omega)]
  rfl
theorem iJ2_ev {b : MBlk} (hb : blkV b) (t : ByteArray) : Ev (fun k => impl_FormatBlock.j2 k (endC b.f1 : Int) (sumM b.f2) t b.f0 b.f1 b.f2 b.f3 b.f4) ((reportM b).take 5 ++ [t]) := by
  obtain ⟨h1, h2, h3, h4, h5⟩ := nums_ok hb
  have z1 := decB_size _ h1.1 h1.2
  have z2 := decB_size _ h2.1 h2.2
  have z3 := decB_size _ h3.1 h3.2
  have z4 := decB_size _ h4.1 h4.2
  have z5 := decB_size (sumM b.f2 % 65536) (by omega) (by omega)
  refine Ev.step (f := fun _ => some ((reportM b).take 5 ++ [t])) (fun k => ?_) (Ev.now _)
  rw [impl_FormatBlock.j2.eq_2, idec h1.1 h1.2, Option.bind_some, if_pos (by omega), idec h2.1 h2.2, Option.bind_some, if_pos (by omega), idec h3.1 h3.2, Option.bind_some, if_pos (by omega), idec h4.1 h4.2, Option.bind_some, if_pos (by omega),
    iwrapS h5.1 h5.2, Option.bind_some, idec (by omega) (by omega), Option.bind_some, if_pos (by omega)]
  rfl
theorem stuck_end {b : MBlk} (h : (b.f1.all fun w => w.f1.isEmpty) = true) : isStuckM b = false := by unfold isStuckM; rw [h]; rfl
theorem sreport_ev {b : MBlk} (hb : blkV b) : Ev (fun k => spec_FormatBlock.f k b.f0 b.f1 b.f2 b.f3 b.f4) (reportM b) := by
  have hl := hb.2.1
  have h32 := hb.2.2.1.1
  have hz := why_size b b.f1.length 0
  refine Ev.bind (f := fun k t12 => (if t12 = true then (spec_FormatBlock.l0 k 0 0 b.f0 b.f1 b.f2 b.f3 b.f4) else (some (([] : List ByteArray))))) (okS hb) ?_
  refine Ev.congr (fun k => if_pos rfl) ?_
  refine sE_ev (by omega) ?_ b.f1.length 0 0 (by omega) (by simp)
  refine sS_ev (by omega) hb.2.2.1.2 (fun k => by rw [spec_FormatBlock.l1.eq_2, if_neg (by omega)]) ?_ b.f2.length 0 0 (by omega) (by simp) (by omega)
  refine Ev.bind (sended_ev (small_V hb).hw) ?_
  by_cases he : (b.f1.all fun w => w.f1.isEmpty) = true
  · refine Ev.congr (fun k => if_pos he) (Ev.step (fun k => by rw [spec_FormatBlock.j2.eq_2]) (Ev.bind (sstuck_ev hb) ?_))
    refine Ev.congr (fun k => if_neg (by rw [stuck_end he]; simp)) ?_
    have := sJ3_ev hb ⟨#[100, 111, 110, 101]⟩
    rwa [show (reportM b).take 5 ++ [(⟨#[100, 111, 110, 101]⟩ : ByteArray)] = reportM b by unfold reportM stateM; rw [if_pos he]; rfl] at this
  · refine Ev.congr (fun k => if_neg he) (Ev.step (fun k => by rw [spec_FormatBlock.j2.eq_2]) (Ev.bind (sstuck_ev hb) ?_))
    by_cases hst : isStuckM b = true
    · refine Ev.congr (fun k => if_pos hst) (Ev.bind (swhy_ev hb hst) (Ev.congr (fun k => if_pos (by omega)) ?_))
      have := sJ3_ev hb ((⟨#[115, 116, 117, 99, 107, 32]⟩ : ByteArray) ++ why b 0 b.f1.length)
      rwa [show (reportM b).take 5 ++ [(⟨#[115, 116, 117, 99, 107, 32]⟩ : ByteArray) ++ why b 0 b.f1.length] = reportM b by unfold reportM stateM; rw [if_neg he, if_pos hst]; rfl] at this
    · refine Ev.congr (fun k => if_neg hst) ?_
      have := sJ3_ev hb ⟨#[114, 117, 110, 110, 105, 110, 103]⟩
      rwa [show (reportM b).take 5 ++ [(⟨#[114, 117, 110, 110, 105, 110, 103]⟩ : ByteArray)] = reportM b by unfold reportM stateM; rw [if_neg he, if_neg hst]; rfl] at this
theorem ireport_ev {b : MBlk} (hb : blkV b) : Ev (fun k => impl_FormatBlock.f k b.f0 b.f1 b.f2 b.f3 b.f4) (reportM b) := by
  have hl := hb.2.1
  have h32 := hb.2.2.1.1
  have hz := why_size b b.f1.length 0
  refine Ev.bind (f := fun k t12 => (if t12 = true then (impl_FormatBlock.l0 k 0 0 b.f1 (b.f1.length : Int) 0 b.f0 b.f1 b.f2 b.f3 b.f4) else (some ([] : List ByteArray)))) (okI hb) ?_
  refine Ev.congr (fun k => if_pos rfl) ?_
  refine iE_ev (by omega) ?_ b.f1.length 0 0 (by omega) (by simp)
  refine iS_ev (by omega) hb.2.2.1.2 (fun k => by rw [impl_FormatBlock.l1.eq_2, if_neg (by omega)]) ?_ b.f2.length 0 0 (by omega) (by simp) (by omega)
  refine Ev.bind (iended_ev (small_V hb).hw) ?_
  by_cases he : (b.f1.all fun w => w.f1.isEmpty) = true
  · refine Ev.congr (fun k => if_pos he) ?_
    have := iJ2_ev hb ⟨#[100, 111, 110, 101]⟩
    rwa [show (reportM b).take 5 ++ [(⟨#[100, 111, 110, 101]⟩ : ByteArray)] = reportM b by unfold reportM stateM; rw [if_pos he]; rfl] at this
  · refine Ev.congr (fun k => if_neg he) (Ev.bind (istuck_ev hb) ?_)
    by_cases hst : isStuckM b = true
    · refine Ev.congr (fun k => if_pos hst) (Ev.bind (iwhy_ev hb hst) (Ev.congr (fun k => if_pos (by omega)) ?_))
      have := iJ2_ev hb ((⟨#[115, 116, 117, 99, 107, 32]⟩ : ByteArray) ++ why b 0 b.f1.length)
      rwa [show (reportM b).take 5 ++ [(⟨#[115, 116, 117, 99, 107, 32]⟩ : ByteArray) ++ why b 0 b.f1.length] = reportM b by unfold reportM stateM; rw [if_neg he, if_pos hst]; rfl] at this
    · refine Ev.congr (fun k => if_neg hst) ?_
      have := iJ2_ev hb ⟨#[114, 117, 110, 110, 105, 110, 103]⟩
      rwa [show (reportM b).take 5 ++ [(⟨#[114, 117, 110, 110, 105, 110, 103]⟩ : ByteArray)] = reportM b by unfold reportM stateM; rw [if_neg he, if_neg hst]; rfl] at this
theorem report_both {b : MBlk} (hs : smallB b.f0 b.f1 b.f2) : ∃ r : List ByteArray, r.length ≤ 6 ∧ Ev (fun k => spec_FormatBlock.f k b.f0 b.f1 b.f2 b.f3 b.f4) r ∧ Ev (fun k => impl_FormatBlock.f k b.f0 b.f1 b.f2 b.f3 b.f4) r := by
  by_cases hb : blkB b = true
  · have hv := (blkB_iff b).1 hb
    exact ⟨reportM b, Nat.le_refl 6, sreport_ev hv, ireport_ev hv⟩
  · refine ⟨[], by simp, ?_, ?_⟩
    · refine Ev.bind (f := fun k t12 => (if t12 = true then (spec_FormatBlock.l0 k 0 0 b.f0 b.f1 b.f2 b.f3 b.f4) else (some (([] : List ByteArray))))) (sblockOk_ev b (by have := hs.hc; omega)) ?_
      exact Ev.congr (fun k => if_neg hb) (Ev.now _)
    · refine Ev.bind (f := fun k t12 => (if t12 = true then (impl_FormatBlock.l0 k 0 0 b.f1 (b.f1.length : Int) 0 b.f0 b.f1 b.f2 b.f3 b.f4) else (some ([] : List ByteArray)))) (blockOk_ev b fun k hk => by have := (hs.hr k hk).1; omega) ?_
      exact Ev.congr (fun k => if_neg hb) (Ev.now _)

end Go.Proofs.YtmnkbchieplicaaGreatDoor.Q
