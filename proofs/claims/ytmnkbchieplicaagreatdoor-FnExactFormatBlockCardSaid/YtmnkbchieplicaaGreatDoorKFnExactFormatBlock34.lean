/- Operations of one region that leave each other's memory as it is may come in any order: one rule for the regions that draw. -/
import Derived.Test.YtmnkbchieplicaaGreatDoorKFnExactFormatBlock33
import Derived.Orders
import Derived.Below
import Derived.KernelRfl
namespace Go.Proofs.YtmnkbchieplicaaGreatDoor.Q
open Go Go.RowKit
set_option linter.unusedVariables false

def prDst (ops : Array Oper) (i : Nat) : Option Tmp := (ops[i]?).bind (·.dst)
def prLooks (ops : Array Oper) (i : Nat) : List Tmp := ((ops[i]?).map fun o => o.looksAt ops).getD []
def prNeed (ops : Array Oper) (i : Nat) : List Nat := (List.range ops.size).filter fun j => j != i && (match prDst ops j with | some t => (prLooks ops i).contains t | none => false)
def prPut (ops : Array Oper) (vs : Nat → Value) (js : List Nat) (a : Act) : Act := js.foldl (fun a j => a.put (prDst ops j) (vs j)) a
def prOkOne (ops : Array Oper) (i : Nat) (o : Oper) : Bool :=
  (match o.op with | .select .. => false | .defer .. => false | _ => true) &&
  (o.after.all fun e => !Region.binds .any e || decide (e.on < i)) &&
  ((prNeed ops i).all fun j => o.after.any fun e => e.on == j && Region.binds .any e) &&
  ((List.range ops.size).all fun j => j == i || prDst ops j == none || prDst ops j != o.dst)
def prOk (ops : Array Oper) : Bool := (List.range ops.size).all fun i => match ops[i]? with | some o => prOkOne ops i o | none => false
/-- What one operation does, told of its value alone. -/
def PrSpec (P : Program) (ops : Array Oper) (a0 : Act) (I : World → Prop) (V : Nat → World → Value → Prop) (i : Nat) : Prop :=
  match ops[i]? with
  | none => True
  | some o => ∀ vs w, I w → (∀ j, j ∈ prNeed ops i → V j w (vs j)) → ∀ Kc : Act → World → Prop, (∀ v w', Below w.heap.size w w' → V i w' v → Kc ((prPut ops vs (prNeed ops i) a0).put o.dst v) w') →
      if Region.wanted o (yielded ops (prPut ops vs (prNeed ops i) a0).tmps) = true then Oper.wp P o (prPut ops vs (prNeed ops i) a0) w Kc (fun _ _ _ => False) else Kc ((prPut ops vs (prNeed ops i) a0).put o.dst undef) w
def PrAll (S : Nat → Prop) : List Nat → Prop
  | [] => True
  | i :: r => S i ∧ PrAll S r
theorem PrAll.get {S : Nat → Prop} : ∀ {l : List Nat}, PrAll S l → ∀ i ∈ l, S i
  | _ :: _, h, _, .head _ => h.1
  | _ :: _, h, i, .tail _ hm => PrAll.get h.2 i hm

theorem pr_put_size (a : Act) (d : Option Tmp) (v : Value) : (a.put d v).tmps.size = a.tmps.size := by cases d <;> simp [Act.put]
theorem pr_put_defers (a : Act) (d : Option Tmp) (v : Value) : (a.put d v).defers = a.defers := by cases d <;> rfl
theorem pr_put_ne {a : Act} {d : Option Tmp} {v : Value} {t : Tmp} (h : d ≠ some t) : (a.put d v).tmps[t]? = a.tmps[t]? := by
  cases d with
  | none => rfl
  | some x => simp only [Act.put]; rw [Array.getElem?_setIfInBounds_ne]; intro e; exact h (by rw [e])
theorem pr_put_eq {a : Act} {v : Value} {t : Tmp} (h : t < a.tmps.size) : (a.put (some t) v).tmps[t]? = some v := by
  simp only [Act.put]; rw [Array.getElem?_setIfInBounds_self_of_lt h]
section
variable {ops : Array Oper} {vs : Nat → Value}
theorem prPut_size : ∀ (js : List Nat) (a : Act), (prPut ops vs js a).tmps.size = a.tmps.size
  | [], _ => rfl
  | j :: js, a => by show (prPut ops vs js (a.put _ _)).tmps.size = _; rw [prPut_size js, pr_put_size]
theorem prPut_defers : ∀ (js : List Nat) (a : Act), (prPut ops vs js a).defers = a.defers
  | [], _ => rfl
  | j :: js, a => by show (prPut ops vs js (a.put _ _)).defers = _; rw [prPut_defers js, pr_put_defers]
theorem prPut_ne {t : Tmp} : ∀ (js : List Nat) (a : Act), (∀ j ∈ js, prDst ops j ≠ some t) → (prPut ops vs js a).tmps[t]? = a.tmps[t]?
  | [], _, _ => rfl
  | j :: js, a, h => by
    show (prPut ops vs js (a.put _ _)).tmps[t]? = _
    rw [prPut_ne js _ fun j' hj' => h j' (.tail _ hj'), pr_put_ne (h j (.head _))]
theorem prPut_eq {t : Tmp} {j0 : Nat} (hd : prDst ops j0 = some t) (hu : ∀ j, prDst ops j = some t → j = j0) : ∀ (js : List Nat) (a : Act), j0 ∈ js → t < a.tmps.size → (prPut ops vs js a).tmps[t]? = some (vs j0)
  | j :: js, a, hm, hs => by
    show (prPut ops vs js (a.put _ _)).tmps[t]? = _
    by_cases hin : j0 ∈ js
    · exact prPut_eq hd hu js _ hin (by rw [pr_put_size]; exact hs)
    · have hj : j0 = j := by cases hm with | head => rfl | tail _ h => exact absurd h hin
      subst hj
      rw [prPut_ne js _ fun j' hj' e => hin (by rw [← hu j' e]; exact hj'), hd, pr_put_eq hs]
end
section
variable {P : Program} {ops : Array Oper} {Q : Exit → Act → World → Prop} {a0 : Act} {I : World → Prop} {V : Nat → World → Value → Prop}
structure PrInv (ops : Array Oper) (a0 : Act) (I : World → Prop) (V : Nat → World → Value → Prop) (L : Nat → Prop) (vs : Nat → Value) (a : Act) (w : World) : Prop where
  df : a.defers = a0.defers
  sz : a.tmps.size = a0.tmps.size
  ne : ∀ t, (∀ i, L i → prDst ops i ≠ some t) → a.tmps[t]? = a0.tmps[t]?
  eq : ∀ i t, L i → prDst ops i = some t → t < a0.tmps.size → a.tmps[t]? = some (vs i)
  wI : I w
  wV : ∀ i, L i → V i w (vs i)
theorem prOk_one (h : prOk ops = true) {i : Nat} {o : Oper} (hi : ops[i]? = some o) : prOkOne ops i o = true := by
  unfold prOk at h
  rw [List.all_eq_true] at h
  have hlt : i < ops.size := by
    rw [Array.getElem?_eq_some_iff] at hi
    exact hi.1
  have := h i (List.mem_range.2 hlt)
  simpa [hi] using this
theorem prDst_lt {i : Nat} {t : Tmp} (h : prDst ops i = some t) : i < ops.size := by
  unfold prDst at h
  cases hi : ops[i]? with
  | none => rw [hi] at h; simp at h
  | some o => rw [Array.getElem?_eq_some_iff] at hi; exact hi.1
theorem prDst_uniq (h : prOk ops = true) {i j : Nat} {t : Tmp} (hi : prDst ops i = some t) (hj : prDst ops j = some t) : j = i := by
  have hl := prDst_lt hi
  have ho : ops[i]? = some ops[i] := Array.getElem?_eq_getElem hl
  have h1 := prOk_one h ho
  simp only [prOkOne, Bool.and_eq_true] at h1
  have h2 := List.all_eq_true.1 h1.2 j (List.mem_range.2 (prDst_lt hj))
  simp only [Bool.or_eq_true, beq_iff_eq, bne_iff_ne, ne_eq] at h2
  have h3 : prDst ops i = ops[i].dst := by simp [prDst, ho]
  rcases h2 with (h2 | h2) | h2
  · exact h2
  · rw [hj] at h2; cases h2
  · exact absurd (by rw [hj, ← h3, hi]) h2
/-- The act that an operation prLooks at is, for it, the one with its needs alone. -/
theorem pr_look_same (hok : prOk ops = true) {i : Nat} {L : Nat → Prop} {vs : Nat → Value} {a : Act} {w : World} (h : PrInv ops a0 I V L vs a w) (hn : ∀ j ∈ prNeed ops i, L j) (hi : ¬L i) (t : Tmp) (ht : t ∈ prLooks ops i) :
    (prPut ops vs (prNeed ops i) a0).tmps[t]? = a.tmps[t]? := by
  by_cases he : ∃ j, prDst ops j = some t ∧ j ≠ i
  · obtain ⟨j, hj, hne⟩ := he
    have hm : j ∈ prNeed ops i := by
      unfold prNeed
      rw [List.mem_filter]
      refine ⟨List.mem_range.2 (prDst_lt hj), ?_⟩
      simp [hj, hne, ht]
    by_cases hs : t < a0.tmps.size
    · rw [prPut_eq hj (fun j' hj' => prDst_uniq hok hj hj') _ _ hm hs, h.eq j t (hn j hm) hj hs]
    · rw [Array.getElem?_eq_none (by rw [prPut_size]; exact Nat.le_of_not_lt hs), Array.getElem?_eq_none (by rw [h.sz]; exact Nat.le_of_not_lt hs)]
  · have hne : ∀ j, prDst ops j = some t → j = i := fun j hj => Classical.byContradiction fun hn => he ⟨j, hj, hn⟩
    rw [prPut_ne _ _ fun j hj e => ?_, h.ne t fun j hj e => hi (by rw [← hne j e]; exact hj)]
    have h1 := hne j e
    subst h1
    unfold prNeed at hj
    rw [List.mem_filter] at hj
    simp at hj
theorem pr_put_same {a b : Act} {d : Option Tmp} {v v' : Value} (hs : b.tmps.size = a.tmps.size) (h : a.put d v = a.put d v') : b.put d v = b.put d v' := by
  cases d with
  | none => rfl
  | some t =>
    by_cases ht : t < a.tmps.size
    · have h1 := congrArg (fun x => x.tmps[t]?) h
      have h1 : (a.put (some t) v).tmps[t]? = (a.put (some t) v').tmps[t]? := h1
      rw [pr_put_eq ht, pr_put_eq ht] at h1
      rw [Option.some.inj h1]
    · simp only [Act.put]
      have hb : b.tmps.size ≤ t := by rw [hs]; exact Nat.le_of_not_lt ht
      rw [Array.setIfInBounds_eq_of_size_le hb, Array.setIfInBounds_eq_of_size_le hb]
theorem pr_spec_to {i : Nat} {o : Oper} (ho : ops[i]? = some o) (hok : prOk ops = true) {L : Nat → Prop} {vs : Nat → Value} {a : Act} {w : World} (h : PrInv ops a0 I V L vs a w) (hn : ∀ j ∈ prNeed ops i, L j) (hi : ¬L i)
    (hs : PrSpec P ops a0 I V i) {K : Act → World → Prop} (hK : ∀ v w', Below w.heap.size w w' → V i w' v → K (a.put o.dst v) w') : wpOp P ops Q i K a w := by
  unfold PrSpec at hs
  rw [ho] at hs
  simp only [] at hs
  generalize hb : prPut ops vs (prNeed ops i) a0 = b at hs
  have hbs : b.tmps.size = a.tmps.size := by rw [← hb, prPut_size, h.sz]
  have h1 := prOk_one hok ho
  simp only [prOkOne, Bool.and_eq_true] at h1
  have hsel : ∀ cs bl, o.op ≠ .select cs bl := fun cs bl e => by have := h1.1.1.1; rw [e] at this; simp at this
  have hdef : ∀ c, o.op ≠ .defer c := fun c e => by have := h1.1.1.1; rw [e] at this; simp at this
  have hlook : ∀ t ∈ o.looksAt ops, b.tmps[t]? = a.tmps[t]? := fun t ht => by
    rw [← hb]
    exact pr_look_same hok h hn hi t (by simp only [prLooks, ho]; exact ht)
  have he : execOp b.eval o = execOp a.eval o := execOp_congr o hsel fun x hx => by
    cases x with
    | tmp t =>
      have := hlook t (List.mem_append_left _ (List.mem_filterMap.2 ⟨.tmp t, by simpa using hx, rfl⟩))
      simp only [Act.eval, Array.getD_eq_getD_getElem?, this]
    | _ => rfl
  have hwant : Region.wanted o (yielded ops b.tmps) = Region.wanted o (yielded ops a.tmps) := by
    unfold Region.wanted
    cases hg : o.guard with
    | none => rfl
    | some gw =>
      obtain ⟨g, want⟩ := gw
      simp only []
      have hy : yielded ops b.tmps g = yielded ops a.tmps g := by
        unfold yielded
        cases ht : (ops[g]?).bind (·.dst) with
        | none => rfl
        | some t =>
          simp only [Option.bind_some]
          rw [hlook t (by simp [Oper.looksAt, hg, ht])]
      rw [hy]
  have hq := hs vs w h.wI (fun j hj => h.wV j (hn j hj)) (fun a' w' => ∃ v, Below w.heap.size w w' ∧ V i w' v ∧ a' = b.put o.dst v) (fun v w' hb' hv => ⟨v, hb', hv, by rw [hb]⟩)
  have hK' : ∀ v0 w', (∃ v, Below w.heap.size w w' ∧ V i w' v ∧ b.put o.dst v0 = b.put o.dst v) → K (a.put o.dst v0) w' := by
    rintro v0 w' ⟨v, hb, hv, he⟩
    rw [pr_put_same hbs.symm he]
    exact hK v w' hb hv
  unfold wpOp
  rw [ho]
  simp only []
  rw [hb, hwant] at hq
  split
  · rename_i hw
    rw [if_pos hw] at hq
    refine .inl ?_
    unfold Oper.wp at hq ⊢
    rw [he] at hq
    have hnd : ∀ d w', (execOp a.eval o).run P w ≠ .ok (.defer d) w' ∨ True := fun _ _ => .inr trivial
    generalize (execOp a.eval o).run P w = r at *
    cases r with
    | halt x w' => cases x <;> exact absurd hq (by simp [Oper.upon])
    | ok n w' =>
      cases n <;> simp only [Oper.upon] at hq ⊢
      case value v => exact hK' v w' hq
      case skip => exact hK' undef w' hq
      case defer d =>
        obtain ⟨v, hb, hv, he2⟩ := hq
        exfalso
        have := congrArg Act.defers he2
        simp only [pr_put_defers] at this
        exact absurd this (by simp)
      case enter f args =>
        refine Calls.mono hq fun e w'' he3 => ?_
        cases e with
        | returned v => exact hK' v w'' he3
        | panicked c => exact he3.elim
        | outgrown => obtain ⟨_, _, hf⟩ := he3; exact hf.elim
      case row row args => exact Rows.mono hq fun v w'' he3 => hK' v w'' he3
  · rename_i hw
    rw [if_neg hw] at hq
    exact hK' undef w hq
theorem pr_any (hok : prOk ops = true) (hV : ∀ i w w' v, V i w v → Below w.heap.size w w' → V i w' v) (hI : ∀ w w', I w → Below w.heap.size w w' → I w')
    (spec : ∀ i < ops.size, PrSpec P ops a0 I V i)
    (fin : ∀ vs w, I w → (∀ j < ops.size, V j w (vs j)) → Q .normal (prPut ops vs (List.range ops.size) a0) w) :
    ∀ (fuel : Nat) (listed : Array Bool) (vs : Nat → Value) (a : Act) (w : World), listed.size = ops.size → ((List.range ops.size).filter fun i => listed[i]? != some true).length = fuel →
      PrInv ops a0 I V (fun i => listed[i]? = some true) vs a w → wpAny P .any ops Q fuel listed a w := by
  have full : ∀ (listed : Array Bool) (vs : Nat → Value) (a : Act) (w : World), listed.size = ops.size → (∀ i < ops.size, listed[i]? = some true) → PrInv ops a0 I V (fun i => listed[i]? = some true) vs a w → Q .normal a w := by
    intro listed vs a w hsz hall hinv
    have ha : a = prPut ops vs (List.range ops.size) a0 := by
      have htm : a.tmps = (prPut ops vs (List.range ops.size) a0).tmps := by
        apply Array.ext_getElem?
        intro t
        by_cases he : ∃ j, prDst ops j = some t
        · obtain ⟨j, hj⟩ := he
          by_cases hs : t < a0.tmps.size
          · rw [hinv.eq j t (hall j (prDst_lt hj)) hj hs, prPut_eq hj (fun j' hj' => prDst_uniq hok hj hj') _ _ (List.mem_range.2 (prDst_lt hj)) hs]
          · rw [Array.getElem?_eq_none (by rw [hinv.sz]; exact Nat.le_of_not_lt hs), Array.getElem?_eq_none (by rw [prPut_size]; exact Nat.le_of_not_lt hs)]
        · rw [hinv.ne t fun j _ e => he ⟨j, e⟩, prPut_ne _ _ fun j _ e => he ⟨j, e⟩]
      have hdf : a.defers = (prPut ops vs (List.range ops.size) a0).defers := by rw [prPut_defers, hinv.df]
      cases a
      generalize prPut ops vs (List.range ops.size) a0 = b at *
      cases b
      simp only [] at htm hdf
      rw [htm, hdf]
    rw [ha]
    exact fin vs w hinv.wI fun j hj => hinv.wV j (hall j hj)
  have ready_of : ∀ (listed : Array Bool), listed.size = ops.size → Region.ready .any ops listed = [] → ∀ i < ops.size, listed[i]? = some true := by
    intro listed hsz hr i
    induction i using Nat.strongRecOn with
    | _ i ih =>
      intro hi
      apply Classical.byContradiction
      intro hne
      have hl : listed.getD i true = false := by
        have hlt : i < listed.size := by omega
        have h2 : listed[i]? = some listed[i] := Array.getElem?_eq_getElem hlt
        rw [Array.getD_eq_getD_getElem?, h2]
        rw [h2] at hne
        simpa using hne
      have ho : ops[i]? = some ops[i] := Array.getElem?_eq_getElem hi
      have h1 := prOk_one hok ho
      simp only [prOkOne, Bool.and_eq_true] at h1
      have : i ∈ Region.ready .any ops listed := by
        unfold Region.ready
        rw [List.mem_filter]
        refine ⟨List.mem_range.2 hi, ?_⟩
        simp only [hl, Bool.not_false, Bool.true_and, ho, Option.map_some, Option.getD_some]
        rw [Array.all_eq_true'] at h1 ⊢
        intro e he
        have h2 := h1.1.1.2 e he
        by_cases hb : Region.binds .any e = true
        · simp only [hb, Bool.not_true, Bool.false_or] at h2 ⊢
          have h3 := ih e.on (of_decide_eq_true h2) (by have := of_decide_eq_true h2; omega)
          simp [Array.getD_eq_getD_getElem?, h3]
        · simp [hb]
      rw [hr] at this
      cases this
  intro fuel
  induction fuel with
  | zero =>
    intro listed vs a w hsz hc hinv
    have hall : ∀ i < ops.size, listed[i]? = some true := by
      intro i hi
      apply Classical.byContradiction
      intro hne
      have : i ∈ (List.range ops.size).filter fun i => listed[i]? != some true := List.mem_filter.2 ⟨List.mem_range.2 hi, by simpa using hne⟩
      rw [List.eq_nil_of_length_eq_zero hc] at this
      cases this
    refine ⟨?_, full listed vs a w hsz hall hinv⟩
    unfold Region.ready
    rw [List.filter_eq_nil_iff]
    intro i hi
    have := hall i (List.mem_range.1 hi)
    simp [Array.getD_eq_getD_getElem?, this]
  | succ fuel ih =>
    intro listed vs a w hsz hc hinv
    refine ⟨fun hr => full listed vs a w hsz (ready_of listed hsz hr) hinv, ?_⟩
    intro i hi
    unfold Region.ready at hi
    rw [List.mem_filter] at hi
    obtain ⟨hlt, hi⟩ := hi
    have hlt := List.mem_range.1 hlt
    have ho : ops[i]? = some ops[i] := Array.getElem?_eq_getElem hlt
    have h1 := prOk_one hok ho
    simp only [prOkOne, Bool.and_eq_true] at h1
    simp only [Bool.and_eq_true, ho, Option.map_some, Option.getD_some] at hi
    obtain ⟨hnl, haft⟩ := hi
    have hnl' : listed[i]? = some false := by
      have h2 : listed[i]? = some listed[i] := Array.getElem?_eq_getElem (by omega)
      rw [Array.getD_eq_getD_getElem?, h2] at hnl
      rw [h2]
      simpa using hnl
    have hni : ¬(listed[i]? = some true) := by rw [hnl']; simp
    have hneed : ∀ j ∈ prNeed ops i, listed[j]? = some true := by
      intro j hj
      have h2 := List.all_eq_true.1 h1.1.2 j hj
      rw [Array.any_eq_true'] at h2
      obtain ⟨e, he, h3⟩ := h2
      simp only [Bool.and_eq_true, beq_iff_eq] at h3
      have h4 := (Array.all_eq_true'.1 haft) e he
      simp only [h3.2, Bool.not_true, Bool.false_or, h3.1] at h4
      rw [Array.getD_eq_getD_getElem?] at h4
      cases h5 : listed[j]? with
      | none => rw [h5] at h4; simp at h4
      | some b => rw [h5] at h4; simp at h4; rw [h4]
    refine pr_spec_to ho hok hinv hneed hni (spec i hlt) ?_
    intro v w' hb hv
    refine ih (listed.setIfInBounds i true) (fun j => if j = i then v else vs j) _ w' (by simp [hsz]) ?_ ?_
    · have key : ∀ (l : List Nat), l.Nodup → i ∈ l → (l.filter fun j => listed[j]? != some true).length = (l.filter fun j => (listed.setIfInBounds i true)[j]? != some true).length + 1 := by
        intro l
        induction l with
        | nil => intro _ h; cases h
        | cons x l ihl =>
          intro hnd hm
          rw [List.nodup_cons] at hnd
          by_cases hx : x = i
          · subst hx
            have e1 : (listed[x]? != some true) = true := by simpa using hni
            have e2 : ((listed.setIfInBounds x true)[x]? != some true) = false := by simp [Array.getElem?_setIfInBounds_self_of_lt (show x < listed.size by omega)]
            have e3 : (l.filter fun j => listed[j]? != some true) = l.filter fun j => (listed.setIfInBounds x true)[j]? != some true := by
              apply List.filter_congr
              intro y hy
              rw [Array.getElem?_setIfInBounds_ne (by rintro rfl; exact hnd.1 hy)]
            simp only [List.filter_cons, e1, e2, if_true, e3, List.length_cons]
            simp
          · have hm' : i ∈ l := by cases hm with | head => exact absurd rfl hx | tail _ h => exact h
            have e1 : (listed.setIfInBounds i true)[x]? = listed[x]? := Array.getElem?_setIfInBounds_ne (by omega)
            simp only [List.filter_cons, e1]
            split
            · simp only [List.length_cons, ihl hnd.2 hm']
            · exact ihl hnd.2 hm'
      have := key (List.range ops.size) List.nodup_range (List.mem_range.2 hlt)
      omega
    · have hset : ∀ j, (listed.setIfInBounds i true)[j]? = some true ↔ (j = i ∨ listed[j]? = some true) := by
        intro j
        by_cases hj : j = i
        · subst hj
          simp [Array.getElem?_setIfInBounds_self_of_lt (show j < listed.size by omega)]
        · rw [Array.getElem?_setIfInBounds_ne (by omega)]
          simp [hj]
      have hd : prDst ops i = ops[i].dst := by simp [prDst, ho]
      refine ⟨by rw [pr_put_defers, hinv.df], by rw [pr_put_size, hinv.sz], ?_, ?_, hI w w' hinv.wI hb, ?_⟩
      · intro t ht
        rw [← hd, pr_put_ne (ht i ((hset i).2 (.inl rfl))), hinv.ne t fun j hj => ht j ((hset j).2 (.inr hj))]
      · intro j t hj hjt hs
        by_cases hji : j = i
        · subst hji
          rw [if_pos rfl, ← hd, hjt, pr_put_eq (by rw [hinv.sz]; exact hs)]
        · have hl := ((hset j).1 hj).resolve_left hji
          rw [if_neg hji, ← hd, pr_put_ne (fun e => hji (prDst_uniq hok e hjt)), hinv.eq j t hl hjt hs]
      · intro j hj
        by_cases hji : j = i
        · subst hji; rw [if_pos rfl]; exact hv
        · rw [if_neg hji]; exact hV j w w' _ (hinv.wV j (((hset j).1 hj).resolve_left hji)) hb
def prPutD (vs : Nat → Value) : List (Nat × Option Tmp) → Act → Act
  | [], a => a
  | p :: r, a => prPutD vs r (a.put p.2 (vs p.1))
theorem prPut_D {ops : Array Oper} {vs : Nat → Value} : ∀ (js : List (Nat × Option Tmp)) (a : Act), (js.all fun p => prDst ops p.1 == p.2) = true → prPut ops vs (js.map (·.1)) a = prPutD vs js a
  | [], _, _ => rfl
  | p :: r, a, h => by
    simp only [List.all_cons, Bool.and_eq_true, beq_iff_eq] at h
    show prPut ops vs (r.map (·.1)) (a.put (prDst ops p.1) (vs p.1)) = _
    rw [h.1, prPut_D r _ h.2]
    rfl
theorem pr_spec {P : Program} {ops : Array Oper} {a0 : Act} {I : World → Prop} {V : Nat → World → Value → Prop} {i : Nat} {o : Oper} (js : List (Nat × Option Tmp)) (h : ∀ vs w, I w → (∀ j, j ∈ js.map (·.1) → V j w (vs j)) → ∀ b, b = prPutD vs js a0 → ∀ Kc : Act → World → Prop, (∀ v w', Below w.heap.size w w' → V i w' v → Kc (b.put o.dst v) w') →
      if Region.wanted o (yielded ops b.tmps) = true then Oper.wp P o b w Kc (fun _ _ _ => False) else Kc (b.put o.dst undef) w)
    (hn : prNeed ops i = js.map (·.1) := by kernel_rfl) (hd : (js.all fun p => prDst ops p.1 == p.2) = true := by kernel_rfl) (hi : ops[i]? = some o := by rfl) : PrSpec P ops a0 I V i := by
  unfold PrSpec
  rw [hi]
  intro vs w hI hj Kc hK
  rw [hn] at hj hK ⊢
  rw [prPut_D js a0 hd] at hK ⊢
  exact h vs w hI hj _ rfl Kc hK
/-- An operation that looks at no memory and writes none. -/
theorem pr_pure {P : Program} {ops : Array Oper} {o : Oper} {b : Act} {w : World} {Kc : Act → World → Prop} {V : World → Value → Prop} (hK : ∀ v w', Below w.heap.size w w' → V w' v → Kc (b.put o.dst v) w') (v : Value) (hv : V w v)
    (hw : Region.wanted o (yielded ops b.tmps) = true) (hr : (execOp b.eval o).run P w = .ok (.value v) w) : if Region.wanted o (yielded ops b.tmps) = true then Oper.wp P o b w Kc (fun _ _ _ => False) else Kc (b.put o.dst undef) w := by
  rw [if_pos hw]
  unfold Oper.wp
  rw [hr]
  exact hK v w (Below.refl _ _) hv
/-- THE RULE. -/
theorem pr_region {id : Nat} {w : World} (hm : P.follows .mixedOrders = true) (I : World → Prop) (V : Nat → World → Value → Prop) (h0 : I w.drew) (spec : PrAll (PrSpec P ops a0 I V) (List.range ops.size))
    (ds : List (Nat × Option Tmp)) (fin : ∀ vs w, I w → (∀ j < ops.size, V j w (vs j)) → ∀ b, b = prPutD vs ds a0 → Q .normal b w) (hds : ds.map (·.1) = List.range ops.size) (hdd : (ds.all fun p => prDst ops p.1 == p.2) = true)
    (hok : prOk ops = true) (hV : ∀ i w w' v, V i w v → Below w.heap.size w w' → V i w' v) (hI : ∀ w w', I w → Below w.heap.size w w' → I w') : (Code.region id ops true).wp P Q a0 w := by
  refine wp_region_any hm (pr_any hok hV hI (fun i hi => spec.get i (List.mem_range.2 hi)) (fun vs w h1 h2 => fin vs w h1 h2 _ (by rw [← hds]; exact prPut_D ds a0 hdd)) ops.size _ (fun _ => undef) a0 _ (by simp) ?_ ⟨rfl, rfl, fun _ _ => rfl, ?_, h0, ?_⟩)
  · rw [List.filter_eq_self.2]
    · simp
    · intro i hi
      have := List.mem_range.1 hi
      simp [this]
  · intro i t hi
    rw [Array.getElem?_replicate] at hi
    split at hi <;> simp at hi
  · intro i hi
    rw [Array.getElem?_replicate] at hi
    split at hi <;> simp at hi
end
end Go.Proofs.YtmnkbchieplicaaGreatDoor.Q
