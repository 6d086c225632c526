/- impl.ParseAct. -/
import Derived.Test.YthpmdppkladbfaaDoorKFnExactParseAct10
import Derived.Lib.Join
import Derived.Deep.DeepCutAuto
namespace Go.Proofs.YthpmdppkladbfaaDoor.Q
open Go Go.RowKit Go.Proofs.YthpmdppkladbfaaDoorW.PrintWords Go.Proofs.YthpmdppkladbfaaDoorW.PrintLast Go.Proofs.YthpmdppkladbfaaDoorW.PrintMore
set_option linter.unusedVariables false
set_option linter.unusedSimpArgs false

def strL : Nat → List ByteArray → ByteArray → Int → Int → Option Int
  | 0, _, _, _, _ => none
  | k + 1, x0, x1, x7, x8 => if x8 < x7 then (if 0 ≤ x8 then (if x8 < (x0.length : Int) then (if x1.toList = (rdOf ByteArray.empty x0 x8).toList then some x8 else strL k x0 x1 x7 (wrap64 (x8 + 1))) else none) else none) else some (-1)
set_option maxHeartbeats 1000000 in
set_option maxRecDepth 100000 in
theorem strIdx_calls (k : Nat) (A0 : Option Addr) (c0 : Nat) (l0 : List ByteArray) (a1 : ByteArray) (r : Int) (w : World) (hr0 : Kd.C Kd.string w A0 l0.length l0) (hc0 : l0.length ≤ c0) (h : strL k l0 a1 (l0.length : Int) 0 = some r) :
    Calls Tryd.prog 26 #[.slice A0 l0.length c0, .string a1] w fun e w' => e = .returned (.int .i64 r) ∧ Drawn0 w w' := by
  have HR0 := Aside0.mk hr0
  have HC0 := Aside0.mk hc0
  clear hr0 hc0
  have H : (strL k l0 a1 (l0.length : Int) 0) = some r := h
  clear h
  have H' := Aside0.mk H
  clear H
  go_enter Tryd.func26, Tryd.ntmps26
  go_wp2
  go_loopg [8] k (fun kq v8 w' => ∃ (x8_1 : Int), v8 = .int .i64 x8_1 ∧ Aside0 (strL kq l0 a1 (l0.length : Int) x8_1 = some r) ∧ Aside0 (kq ≤ k) ∧ Drawn0 w w')
  case atStart => exact ⟨(0), (by first | rfl | (simp; done) | (simp [*]; done)), H', ⟨Nat.le_refl _⟩, by repeat (first | exact Drawn0.refl _ | apply Drawn0.step)⟩
  case round =>
    clear H'
    try clear c2
    try clear p2
    obtain ⟨x8_1, rfl, HA, HK1, ⟨m1, rfl⟩⟩ := hrel
    cases gk with
    | zero => exact absurd HA.out (by simp [strL])
    | succ k1 =>
      have H := HA.out
      clear HA
      simp only [strL] at H
      by_cases c3 : x8_1 < (l0.length : Int)
      · rw [if_pos c3] at H
        have c3b0 : decide (x8_1 < (l0.length : Int)) = true := decide_eq_true c3
        clear c3
        by_cases c4 : 0 ≤ x8_1
        · rw [if_pos c4] at H
          have c4b0 : decide (0 ≤ x8_1) = true := decide_eq_true c4
          clear c4
          by_cases c5 : x8_1 < (l0.length : Int)
          · rw [if_pos c5] at H
            have c5b0 : decide (x8_1 < (l0.length : Int)) = true := decide_eq_true c5
            clear c5
            by_cases c6 : a1.toList = (rdOf ByteArray.empty l0 x8_1).toList
            · rw [if_pos c6] at H
              have c6b0 : (a1.toList == (rdOf ByteArray.empty l0 x8_1).toList) = true := beq_iff_eq.mpr c6
              have c6b1 : (a1.toList != (rdOf ByteArray.empty l0 x8_1).toList) = false := bne_eq_false_iff_eq.mpr c6
              clear c6
              obtain rfl := Option.some.inj H
              have p228 : 0 ≤ (x8_1 : Int) := of_decide_eq_true (by first | (with_reducible assumption) | assumption)
              have q228 : x8_1 < (l0.length : Int) := of_decide_eq_true (by first | (with_reducible assumption) | assumption)
              obtain ⟨ad228, e228, hx228_0⟩ := Kd.at_string HR0.out x8_1 p228 q228
              cases e228
              replace p228 := eq_true p228
              replace q228 := eq_true q228
              go_wp2
              go_ret
              exact ⟨by first | rfl | (simp; done) | (simp [*]; done), by repeat (first | exact Drawn0.refl _ | apply Drawn0.step)⟩
            · rw [if_neg c6] at H
              have c6b0 : (a1.toList == (rdOf ByteArray.empty l0 x8_1).toList) = false := beq_eq_false_iff_ne.mpr c6
              have c6b1 : (a1.toList != (rdOf ByteArray.empty l0 x8_1).toList) = true := bne_iff_ne.mpr c6
              have H' := Aside0.mk H
              clear H
              have p228 : 0 ≤ (x8_1 : Int) := of_decide_eq_true (by first | (with_reducible assumption) | assumption)
              have q228 : x8_1 < (l0.length : Int) := of_decide_eq_true (by first | (with_reducible assumption) | assumption)
              obtain ⟨ad228, e228, hx228_0⟩ := Kd.at_string HR0.out x8_1 p228 q228
              cases e228
              replace p228 := eq_true p228
              replace q228 := eq_true q228
              go_wp2
              go_roundg k1
              case measure => have := HK1.out; omega
              case rel => exact ⟨(wrap64 (x8_1 + 1)), (by first | rfl | (simp; done) | (simp [*]; done)), H', ⟨by have := HK1.out; omega⟩, by repeat (first | exact Drawn0.refl _ | apply Drawn0.step)⟩
          · rw [if_neg c5] at H
            exact absurd H (by simp)
        · rw [if_neg c4] at H
          exact absurd H (by simp)
      · rw [if_neg c3] at H
        have c3b0 : decide (x8_1 < (l0.length : Int)) = false := decide_eq_false c3
        clear c3
        obtain rfl := Option.some.inj H
        go_wp2
        go_ret
        exact ⟨by first | rfl | (simp; done) | (simp [*]; done), by repeat (first | exact Drawn0.refl _ | apply Drawn0.step)⟩

/-- What stands in the words' row. -/
structure Words (W : World) (g : Nat) (ws : List ByteArray) : Prop where
  cell : ∀ (j : Nat) x, ws[j]? = some x → W.cell? ⟨g, 0 + j, none⟩ = some (.string x)
  lt : g < W.heap.size
theorem Words.on {W W' : World} {g : Nat} {ws : List ByteArray} (h : Words W g ws) (hb : Below W.heap.size W W') : Words W' g ws :=
  ⟨fun j x hx => (hb.cell h.lt).trans (h.cell j x hx), Nat.lt_of_lt_of_le h.lt hb.size⟩
theorem words_of_R {W : World} {B e : Nat} {v : Value} {ws : List ByteArray} (h : Kd.R Kd.string e W B (fun _ => True) v ws) (hn : 2 ≤ ws.length) : ∃ g c, v = .slice (some ⟨g, 0, none⟩) ws.length c ∧ ws.length ≤ c ∧ Words W g ws := by
  have ho := Kd.own_of_R h
  obtain ⟨h1, h2 | ⟨g, c, cur, rfl, hg, hc, hl, hm, hs, ht⟩⟩ := ho
  · omega
  · refine ⟨g, c, rfl, hl, fun j x hx => ?_, ?_⟩
    · have hj : j < ws.length := (List.getElem?_eq_some_iff.1 hx).1
      have h3 : (cur.toList.take (ws.length * 1))[j]? = some (.string x) := by rw [ht]; simp [encs, hx]
      rw [List.getElem?_take_of_lt (by omega)] at h3
      rw [World.cell?]
      simp only [hc, Nat.zero_add]
      simpa using h3
    · exact (Array.getElem?_eq_some_iff.1 hc).1
def idxName (s : ByteArray) : Int := (strL 6 namesL s (namesL.length : Int) 0).getD (-1)
theorem idxName_some (s : ByteArray) : strL 6 namesL s (namesL.length : Int) 0 = some (idxName s) := by
  have : ∃ r, strL 6 namesL s (namesL.length : Int) 0 = some r := by
    simp only [strL, namesL, List.length_cons, List.length_nil]
    simp [wrap64]
    repeat' split
    all_goals exact ⟨_, rfl⟩
  obtain ⟨r, hr⟩ := this
  unfold idxName
  rw [hr]; rfl
def joinB (ws : List ByteArray) : ByteArray := ⟨(Lib.join (ws.map (·.data.toList)) [32]).toArray⟩
def wd (ws : List ByteArray) (j : Nat) : ByteArray := ws.getD j ByteArray.empty
def actOfB (ws : List ByteArray) : Int × Int × Int := (idxName (wd ws 0), (uintB (wd ws 1)).1, if 2 < ws.length then (uintB (wd ws 2)).1 else 0)
def impl_ParseAct.f (s : ByteArray) : Option (Int × Int × Int × Bool) := (impl_SplitFields.f s).bind fun t =>
  if t.2 = true then (if t.1.length < 2 then some (0, 0, 0, false) else
    (impl_FormatAct.f (actOfB t.1).1 (actOfB t.1).2.1 (actOfB t.1).2.2).bind fun u => if u.2 = true then (if u.1.toList = (joinB t.1).toList then some ((actOfB t.1).1, (actOfB t.1).2.1, (actOfB t.1).2.2, true) else some (0, 0, 0, false)) else some (0, 0, 0, false))
  else some (0, 0, 0, false)

theorem joinX : Builder.Extra Tryd.prog Tryd.laysJoin_ren where
  sizeBuilder := by kernel_rfl
  liesBuilder := by kernel_rfl
  t5 := Tryd.underlying5
  a5 := Tryd.isAgg5
  z5 := Tryd.sizeOf5
  v5 := Tryd.zeroValue5
  infoByte := by kernel_rfl
  cellsByte := by kernel_rfl
  sizeByte := by kernel_rfl
  neB5 := by decide

theorem cell_away {w : World} {p a : Addr} {u : Value} (hp : a.block ≠ p.block) : (w.setCell p u).cell? a = w.cell? a := by
  unfold World.cell?
  rw [Below.heap_setCell w p u a.block hp]
theorem Words.set {W : World} {g j ga : Nat} {v : Value} {ws : List ByteArray} (h : Words W g ws) (hne : ga ≠ g) : Words (W.setCell ⟨ga, j, none⟩ v) g ws :=
  ⟨fun i x hx => (cell_away (fun e => hne e.symm)).trans (h.cell i x hx), by
    have h1 := Array.getElem?_eq_some_iff.1 ((Below.heap_setCell W ⟨ga, j, none⟩ v g (fun e => hne e.symm)).trans (Array.getElem?_eq_getElem h.lt))
    exact h1.1⟩
theorem words_size {s : ByteArray} {ws : List ByteArray} (h : impl_SplitFields.f s = some (ws, true)) : s.size ≤ 600 ∧ ws = fieldsB s ∧ ws.length ≤ 24 := by
  unfold impl_SplitFields.f at h
  split at h
  · simp at h
  · split at h
    · simp at h
    · split at h
      · simp at h
      · simp at h; refine ⟨by omega, h.symm, by rw [← h]; omega⟩
theorem fieldsGo_le : ∀ (l cur : List UInt8), ∀ x ∈ Lib.fieldsGo cur l, x.length ≤ cur.length + l.length
  | [], cur, x, hx => by
    unfold Lib.fieldsGo at hx
    split at hx
    · simp at hx
    · simp at hx; rw [hx]; simp
  | b :: l, cur, x, hx => by
    unfold Lib.fieldsGo at hx
    split at hx
    · split at hx
      · have := fieldsGo_le l [] x hx; simp at this ⊢; omega
      · rcases List.mem_cons.1 hx with rfl | hx
        · omega
        · have := fieldsGo_le l [] x hx; simp at this ⊢; omega
    · have := fieldsGo_le l (cur ++ [b]) x hx; simp at this ⊢; omega
theorem word_le {s : ByteArray} {x : ByteArray} (hx : x ∈ fieldsB s) : x.size ≤ s.size := by
  unfold fieldsB at hx
  obtain ⟨l, hl, rfl⟩ := List.mem_map.1 hx
  have h1 := fieldsGo_le s.data.toList [] l hl
  show l.toArray.size ≤ s.data.size
  simpa using h1
theorem words_uint {s : ByteArray} {ws : List ByteArray} (h : impl_SplitFields.f s = some (ws, true)) : ∀ (j : Nat) (x : ByteArray), ws[j]? = some x → impl_ParseUint.f x = some (uintB x) := by
  intro j x hx
  obtain ⟨h1, rfl, h3⟩ := words_size h
  have := word_le (List.mem_of_getElem? hx)
  unfold impl_ParseUint.f
  rw [if_pos (by omega)]
theorem join_len (sep : List UInt8) : ∀ (xs : List (List UInt8)) (n : Nat), (∀ x ∈ xs, x.length ≤ n) → (Lib.join xs sep).length ≤ xs.length * (n + sep.length) := by
  intro xs
  cases xs with
  | nil => intro n _; simp [Lib.join_nil]
  | cons x r =>
    intro n h
    rw [Lib.join_cons, List.length_append]
    have h0 := h x (by simp)
    have h1 : (Lib.joinTail sep r).length ≤ r.length * (n + sep.length) := by
      have h2 : ∀ y ∈ r, y.length ≤ n := fun y hy => h y (by simp [hy])
      clear h h0
      induction r with
      | nil => simp [Lib.joinTail]
      | cons y r ih =>
        have h3 := ih (fun z hz => h2 z (by simp [hz]))
        have h4 := h2 y (by simp)
        have e : Lib.joinTail sep (y :: r) = (sep ++ y) ++ Lib.joinTail sep r := by simp [Lib.joinTail]
        rw [e, List.length_append, List.length_append, List.length_cons, Nat.succ_mul]
        omega
    rw [List.length_cons, Nat.succ_mul]
    omega
theorem words_join {s : ByteArray} {ws : List ByteArray} (h : impl_SplitFields.f s = some (ws, true)) : ws.length ≤ 140737488355328 ∧ (Lib.join (ws.map (·.data.toList)) (⟨#[32]⟩ : ByteArray).data.toList).length ≤ 140737488355328 := by
  obtain ⟨h1, h2, h3⟩ := words_size h
  refine ⟨by omega, ?_⟩
  have h4 := join_len (⟨#[32]⟩ : ByteArray).data.toList (ws.map (·.data.toList)) 600 (fun x hx => by
    obtain ⟨y, hy, rfl⟩ := List.mem_map.1 hx
    rw [h2] at hy
    have h5 := word_le hy
    have h6 : y.data.toList.length = y.size := by rw [Array.length_toList]; rfl
    omega)
  have h7 : (⟨#[32]⟩ : ByteArray).data.toList.length = 1 := rfl
  rw [h7, List.length_map] at h4
  have h8 : ws.length * (600 + 1) ≤ 24 * 601 := Nat.mul_le_mul_right _ h3
  omega
theorem blk3 {w : World} {g : Nat} {t : TypeId} {a b c x y z : Value} (h : w.heap[g]? = some (.cells #[a, b, c] t (0, 0))) : (((w.setCell ⟨g, 0, none⟩ x).setCell ⟨g, 1, none⟩ y).setCell ⟨g, 2, none⟩ z).heap[g]? = some (.cells #[x, y, z] t (0, 0)) :=
  blk_put (blk_put (blk_put h 0 _ rfl) 1 _ rfl) 2 _ rfl
theorem results_cell2 {fn : Func} {t u : Tmp} {ty : TypeId} (h : fn.results = #[.cell t ty, .tmp u]) (tmps : Array Value) (P : Program) (w : World) (g : Nat) (cs : Array Value)
    (hp : tmps[t]? = some (.pointer (some ⟨g, 0, none⟩))) (hl : (loadVar ty ⟨g, 0, none⟩).run P w = .ok (.agg cs) w) :
    (results fn tmps).run P w = .ok (.tuple #[.agg cs, tmps.getD u undef]) w := by
  have ha : (asAddr (.pointer (some ⟨g, 0, none⟩))).run P w = .ok ⟨g, 0, none⟩ w := rfl
  simp [results, h, hp, Sem.run_bind, ha, hl]
set_option maxHeartbeats 20000000 in
set_option maxRecDepth 100000 in
theorem impl_ParseAct.calls (a0 : ByteArray) (r1 : Int) (r2 : Int) (r3 : Int) (r4 : Bool) (w : World) (h : impl_ParseAct.f a0 = some (r1, r2, r3, r4)) (htab : PowIs w := by (apply PowIs.on; (refine Aside0.out ?_; assumption); repeat (first | (refine Aside0.out ?_; assumption) | apply below_alloc | apply pw_below_drewN | apply below_drew1 | (refine below_set ?_ (Aside0.out (by assumption)))))) :
    Calls Tryd.prog 15 #[.string a0] w fun e w' => e = .returned (.tuple #[.agg #[.int .i64 r1, .int .i64 r2, .int .i64 r3], .bool r4]) ∧ Below w.heap.size w w' := by
  have HT := Aside0.mk htab
  have HB := Aside0.mk (Below.refl w.heap.size w)
  have hu26 := Tryd.underlying26
  clear htab
  unfold impl_ParseAct.f at h
  obtain ⟨⟨ws, ok⟩, hS, h⟩ := Option.bind_eq_some_iff.mp h
  have HS := Aside0.mk (fun (W : World) (hh : PowIs W) => impl_SplitFields.calls a0 ws ok W hS hh)
  cases ok with
  | false =>
    rw [if_neg (by simp)] at h
    simp only [Option.some.injEq, Prod.mk.injEq] at h
    obtain ⟨rfl, rfl, rfl, rfl⟩ := h
    clear hS
    go_enter Tryd.func15, Tryd.ntmps15
    go_wp2_with fail
    refine (HS.out _ (PowIs.on HT.out (by repeat (first | (with_reducible first | exact HB.out | apply below_alloc | apply pw_below_drewN | apply below_drew1) | exact HB.out)))).mono ?_
    rintro e w1 ⟨v1, rfl, hR, hb⟩
    have BR := Aside0.mk (blk_below (blk_new w (.cells #[.int .i64 0, .int .i64 0, .int .i64 0] 26)) hb)
    have HB1 := Aside0.mk (below_step (by repeat (first | (with_reducible first | exact HB.out | apply below_alloc | apply pw_below_drewN | apply below_drew1) | exact HB.out)) hb)
    obtain ⟨ad, cap, rfl⟩ := Kd.R_slice hR
    clear hb hR
    have hc_0 : w1.cell? ⟨w.heap.size, 0, none⟩ = some (.int .i64 0) := (blk_cell BR.out 0).trans rfl
    have hc_1 : w1.cell? ⟨w.heap.size, 1, none⟩ = some (.int .i64 0) := (blk_cell BR.out 1).trans rfl
    have hc_2 : w1.cell? ⟨w.heap.size, 2, none⟩ = some (.int .i64 0) := (blk_cell BR.out 2).trans rfl
    have hf_0 := blk_frozen BR.out 0
    have hf_1 := blk_frozen BR.out 1
    have hf_2 := blk_frozen BR.out 2
    go_wp2_with fail
    refine bodyPost_ret (results_cell2 rfl _ _ _ w.heap.size #[.int .i64 0, .int .i64 0, .int .i64 0] rfl (run_loadVar_row _ _ 26 _ _ (0, 0) _ (blk_put (blk_put (blk_put BR.out 0 _ rfl) 1 _ rfl) 2 _ rfl) Tryd.underlying26 rfl (by kernel_rfl))) rfl ?_
    exact ⟨rfl, by repeat (first | (with_reducible first | exact HB1.out | apply below_alloc | apply pw_below_drewN | apply below_drew1 | refine below_set ?_ (Nat.le_refl _)) | exact HB1.out)⟩
  | true =>
    rw [if_pos rfl] at h
    by_cases c2 : ws.length < 2
    · rw [if_pos c2] at h
      simp only [Option.some.injEq, Prod.mk.injEq] at h
      obtain ⟨rfl, rfl, rfl, rfl⟩ := h
      have c2b : decide ((ws.length : Int) < 2) = true := decide_eq_true (by omega)
      have c2c : decide (ws.length < 2) = true := decide_eq_true c2
      clear hS c2
      go_enter Tryd.func15, Tryd.ntmps15
      go_wp2_with fail
      refine (HS.out _ (PowIs.on HT.out (by repeat (first | (with_reducible first | exact HB.out | apply below_alloc | apply pw_below_drewN | apply below_drew1) | exact HB.out)))).mono ?_
      rintro e w1 ⟨v1, rfl, hR, hb⟩
      have BR := Aside0.mk (blk_below (blk_new w (.cells #[.int .i64 0, .int .i64 0, .int .i64 0] 26)) hb)
      have HB1 := Aside0.mk (below_step (by repeat (first | (with_reducible first | exact HB.out | apply below_alloc | apply pw_below_drewN | apply below_drew1) | exact HB.out)) hb)
      obtain ⟨ad, cap, rfl⟩ := Kd.R_slice hR
      clear hb hR
      have hc_0 : w1.cell? ⟨w.heap.size, 0, none⟩ = some (.int .i64 0) := (blk_cell BR.out 0).trans rfl
      have hc_1 : w1.cell? ⟨w.heap.size, 1, none⟩ = some (.int .i64 0) := (blk_cell BR.out 1).trans rfl
      have hc_2 : w1.cell? ⟨w.heap.size, 2, none⟩ = some (.int .i64 0) := (blk_cell BR.out 2).trans rfl
      have hf_0 := blk_frozen BR.out 0
      have hf_1 := blk_frozen BR.out 1
      have hf_2 := blk_frozen BR.out 2
      go_wp2_with fail
      refine bodyPost_ret (results_cell2 rfl _ _ _ w.heap.size #[.int .i64 0, .int .i64 0, .int .i64 0] rfl (run_loadVar_row _ _ 26 _ _ (0, 0) _ (blk_put (blk_put (blk_put BR.out 0 _ rfl) 1 _ rfl) 2 _ rfl) Tryd.underlying26 rfl (by kernel_rfl))) rfl ?_
      exact ⟨rfl, by repeat (first | (with_reducible first | exact HB1.out | apply below_alloc | apply pw_below_drewN | apply below_drew1 | refine below_set ?_ (Nat.le_refl _)) | exact HB1.out)⟩
    · rw [if_neg c2] at h
      have c2b : decide ((ws.length : Int) < 2) = false := decide_eq_false (by omega)
      have c2c : decide (ws.length < 2) = false := decide_eq_false c2
      have H2 := Aside0.mk (show 2 ≤ ws.length by omega)
      clear c2
      obtain ⟨⟨tx, fine⟩, hF, h⟩ := Option.bind_eq_some_iff.mp h
      go_enter Tryd.func15, Tryd.ntmps15
      go_wp2_with fail
      refine (HS.out _ (PowIs.on HT.out (by repeat (first | (with_reducible first | exact HB.out | apply below_alloc | apply pw_below_drewN | apply below_drew1) | exact HB.out)))).mono ?_
      rintro e w1 ⟨v1, rfl, hR, hb⟩
      have BR := Aside0.mk (blk_below (blk_new w (.cells #[.int .i64 0, .int .i64 0, .int .i64 0] 26)) hb)
      have HB1 := Aside0.mk (below_step (by repeat (first | (with_reducible first | exact HB.out | apply below_alloc | apply pw_below_drewN | apply below_drew1) | exact HB.out)) hb)
      obtain ⟨gw, cap, rfl, hcap, hws⟩ := words_of_R hR H2.out
      have HW := Aside0.mk hws
      clear hb hR hws
      have hc_0 : w1.cell? ⟨w.heap.size, 0, none⟩ = some (.int .i64 0) := (blk_cell BR.out 0).trans rfl
      have hc_1 : w1.cell? ⟨w.heap.size, 1, none⟩ = some (.int .i64 0) := (blk_cell BR.out 1).trans rfl
      have hc_2 : w1.cell? ⟨w.heap.size, 2, none⟩ = some (.int .i64 0) := (blk_cell BR.out 2).trans rfl
      have hf_0 := blk_frozen BR.out 0
      have hf_1 := blk_frozen BR.out 1
      have hf_2 := blk_frozen BR.out 2
      have HN := Aside0.mk (fun W => impl_actNames.calls namesL W rfl)
      have HX := Aside0.mk (fun (W : World) (A : Option Addr) (c : Nat) (hr : Kd.C Kd.string W A namesL.length namesL) (hc : namesL.length ≤ c) => strIdx_calls 6 A c namesL (wd ws 0) (idxName (wd ws 0)) W hr hc (idxName_some _))
      have HB5 := Aside0.mk (Below.refl w1.heap.size w1)
      have hd0 : ws[0]? = some (wd ws 0) := by have := H2.out; unfold wd; rw [List.getD_eq_getElem?_getD, List.getElem?_eq_getElem (by omega)]; rfl
      have hd1 : ws[1]? = some (wd ws 1) := by have := H2.out; unfold wd; rw [List.getD_eq_getElem?_getD, List.getElem?_eq_getElem (by omega)]; rfl
      have HD1 := Aside0.mk hd1
      have hx1 : w1.cell? ⟨gw, 0, none⟩ = some (.string (wd ws 0)) := HW.out.cell 0 _ hd0
      have hy1 : ∀ o, (w1.alloc o).cell? ⟨gw, 0, none⟩ = some (.string (wd ws 0)) := fun o => ((Words.on HW.out (below_alloc (Below.refl _ _) o)).cell 0 _ hd0)
      clear hd1
      have HSZ := Aside0.mk (words_uint hS)
      have HLEN := Aside0.mk (words_join hS)
      have hz1 : (gw = w1.heap.size) = False := eq_false (by have := HW.out.lt; omega)
      have hz2 : (gw < w1.heap.size) = True := eq_true HW.out.lt
      have p0 := eq_true (show (0 : Int) < (ws.length : Int) by have := H2.out; omega)
      have p0' := eq_true (show 0 < ws.length by have := H2.out; omega)
      have p0b := decide_eq_true (show (0 : Int) < (ws.length : Int) by have := H2.out; omega)
      have p0c := decide_eq_true (show 0 < ws.length by have := H2.out; omega)
      go_upto_region 4 with fail
      go_cut [6] (fun v6 wx => ∃ g, v6 = .pointer (some ⟨g, 0, none⟩) ∧ Aside0 (wx.heap[g]? = some (.cells #[.int .i64 (idxName (wd ws 0)), .int .i64 0, .int .i64 0] 26 (0, 0))) ∧ Aside0 (Below w1.heap.size w1 wx) ∧ Aside0 (w1.heap.size ≤ g))
      case first =>
        go_region_with (first
          | (go_at_call 20; refine (HN.out _).mono ?_; rintro e w15 ⟨v15, rfl, hR15, hb15⟩; obtain ⟨A15, c15, rfl⟩ := Kd.R_slice hR15; have HR15 := Aside0.mk (Kd.R_reads' hR15); (try (have n2_ := Aside0.mk (blk_below (g := w1.heap.size) (o := .cells #[.int .i64 0, .int .i64 0, .int .i64 0] 26) (by (with_reducible repeat (first | refine blk_drewN ?_ _ | refine blk_drew ?_)); exact blk_new _ _) hb15); have hq_0 : w15.cell? ⟨w1.heap.size, 0, none⟩ = some (.int .i64 0) := (blk_cell n2_.out 0).trans rfl; have hq_1 : w15.cell? ⟨w1.heap.size, 1, none⟩ = some (.int .i64 0) := (blk_cell n2_.out 1).trans rfl; have hq_2 : w15.cell? ⟨w1.heap.size, 2, none⟩ = some (.int .i64 0) := (blk_cell n2_.out 2).trans rfl; have hqf_0 := blk_frozen n2_.out 0; have hqf_1 := blk_frozen n2_.out 1; have hqf_2 := blk_frozen n2_.out 2; have BQ := n2_)); have n1_ := Aside0.mk (below_step (by repeat (first | (with_reducible first | exact HB5.out | apply below_alloc | apply pw_below_drewN | apply below_drew1) | exact HB5.out)) hb15); clear HB5; have HB5 := n1_; clear n1_; have hx15 := (HB5.out.cell (World.block_lt_of_cell? _ _ hx1)).trans hx1; have hy15 : ∀ o, (w15.alloc o).cell? ⟨gw, 0, none⟩ = some (.string (wd ws 0)) := (fun o => ((below_alloc (Below.refl w15.heap.size w15) o).cell (World.block_lt_of_cell? _ _ hx15)).trans hx15); have hz15 : (gw = w15.heap.size) = False := eq_false (by have h1 := HW.out.lt; have h2 := HB5.out.size; omega); have hz16 : (gw < w15.heap.size) = True := eq_true (by have h1 := HW.out.lt; have h2 := HB5.out.size; omega); have hs15 := Aside0.mk HB5.out.size; clear hb15 hR15)
          | (go_at_call 26; refine (HX.out _ _ _ (Kd.C_below HR15.out.2.2 (by repeat (first | exact Below.refl _ _ | apply below_alloc | apply pw_below_drewN | apply below_drew1))) HR15.out.2.1).mono ?_; rintro e w17 ⟨rfl, hd17⟩; have hb17 := hd17.below; (try (have n2_ := Aside0.mk (blk_below (g := w1.heap.size) (o := .cells #[.int .i64 0, .int .i64 0, .int .i64 0] 26) (by (with_reducible repeat (first | refine blk_drewN ?_ _ | refine blk_drew ?_)); exact BQ.out) hb17); have hq_0 : w17.cell? ⟨w1.heap.size, 0, none⟩ = some (.int .i64 0) := (blk_cell n2_.out 0).trans rfl; have hq_1 : w17.cell? ⟨w1.heap.size, 1, none⟩ = some (.int .i64 0) := (blk_cell n2_.out 1).trans rfl; have hq_2 : w17.cell? ⟨w1.heap.size, 2, none⟩ = some (.int .i64 0) := (blk_cell n2_.out 2).trans rfl; have hqf_0 := blk_frozen n2_.out 0; have hqf_1 := blk_frozen n2_.out 1; have hqf_2 := blk_frozen n2_.out 2; have BQ := n2_)); (try (have n2_ := Aside0.mk (blk_below (g := w15.heap.size) (o := .cells #[.int .i64 0, .int .i64 0, .int .i64 0] 26) (by (with_reducible repeat (first | refine blk_drewN ?_ _ | refine blk_drew ?_)); exact blk_new _ _) hb17); have hq_0 : w17.cell? ⟨w15.heap.size, 0, none⟩ = some (.int .i64 0) := (blk_cell n2_.out 0).trans rfl; have hq_1 : w17.cell? ⟨w15.heap.size, 1, none⟩ = some (.int .i64 0) := (blk_cell n2_.out 1).trans rfl; have hq_2 : w17.cell? ⟨w15.heap.size, 2, none⟩ = some (.int .i64 0) := (blk_cell n2_.out 2).trans rfl; have hqf_0 := blk_frozen n2_.out 0; have hqf_1 := blk_frozen n2_.out 1; have hqf_2 := blk_frozen n2_.out 2; have BQ := n2_)); have n1_ := Aside0.mk (below_step (by repeat (first | (with_reducible first | exact HB5.out | apply below_alloc | apply pw_below_drewN | apply below_drew1) | exact HB5.out)) hb17); clear HB5; have HB5 := n1_; clear n1_; have hs17 := Aside0.mk HB5.out.size; clear hb17 hd17))
        all_goals (
          go_wp2_with fail
          go_meet
          refine ⟨_, rfl, ⟨?_⟩, ⟨?_⟩, ⟨?_⟩⟩
          · first
              | with_reducible exact blk_new _ _
              | with_reducible exact blk3 BQ.out
          · repeat (first
              | with_reducible exact HB5.out
              | with_reducible apply below_alloc
              | with_reducible refine below_set ?_ (Nat.le_refl _)
              | with_reducible refine below_set ?_ hs15.out)
          · first
              | with_reducible exact hs17.out
              | with_reducible exact hs15.out
              | exact Nat.le_refl _)
      case rest =>
        obtain ⟨ga, rfl, hga, hbc, hgl⟩ := hcut
        have HWc := Aside0.mk (Words.on HW.out hbc.out)
        have BRc := Aside0.mk (blk_below BR.out hbc.out)
        have HBc := Aside0.mk (below_step HB1.out hbc.out)
        have HU1 := Aside0.mk (show impl_ParseUint.f (wd ws 1) = some (uintB (wd ws 1)) from HSZ.out _ _ HD1.out)
        clear hc_0 hc_1 hc_2 hf_0 hf_1 hf_2 hx1 hy1 p0 p0' p0b p0c
        have hx1 : wc.cell? ⟨gw, 1, none⟩ = some (.string (wd ws 1)) := HWc.out.cell 1 _ HD1.out
        have p1 := eq_true (show (1 : Int) < (ws.length : Int) by have := H2.out; omega)
        have hca_0 : wc.cell? ⟨ga, 0, none⟩ = some (.int .i64 (idxName (wd ws 0))) := (blk_cell hga.out 0).trans rfl
        have hca_1 : wc.cell? ⟨ga, 1, none⟩ = some (.int .i64 0) := (blk_cell hga.out 1).trans rfl
        have hca_2 : wc.cell? ⟨ga, 2, none⟩ = some (.int .i64 0) := (blk_cell hga.out 2).trans rfl
        have hfa_0 := blk_frozen hga.out 0
        have hfa_1 := blk_frozen hga.out 1
        have hfa_2 := blk_frozen hga.out 2
        have HGA := Aside0.mk (show w.heap.size ≤ ga from Nat.le_trans HB1.out.size hgl.out)
        have hne1 : (ga = gw) = False := eq_false (by have h1 := HW.out.lt; have h2 := hgl.out; omega)
        have hne2 : (gw = ga) = False := eq_false (by have h1 := HW.out.lt; have h2 := hgl.out; omega)
        have hlr : w.heap.size < w1.heap.size := blk_lt BR.out
        have hne3 : (ga = w.heap.size) = False := eq_false (by have h2 := hgl.out; omega)
        have hne4 : (w.heap.size = ga) = False := eq_false (by have h2 := hgl.out; omega)
        clear hlr
        go_wp2_with fail
        refine (impl_ParseUint.calls (wd ws 1) (uintB (wd ws 1)).1 (uintB (wd ws 1)).2 _ HU1.out (PowIs.on HT.out (by repeat (first | with_reducible exact HBc.out | with_reducible apply below_alloc | with_reducible apply pw_below_drewN | with_reducible apply below_drew1 | with_reducible refine below_set ?_ HGA.out | with_reducible refine below_set ?_ (Nat.le_refl _))))).mono ?_
        rintro e w5 ⟨rfl, hb⟩
        have BA5 := Aside0.mk (blk_below hga.out hb)
        have BR5 := Aside0.mk (blk_below BRc.out hb)
        have HW5 := Aside0.mk (Words.on HWc.out hb)
        have HB5' := Aside0.mk (below_step HBc.out hb)
        clear hb hca_0 hca_1 hca_2 hfa_0 hfa_1 hfa_2 hx1 p1 hga BRc HWc
        have hca_0 : w5.cell? ⟨ga, 0, none⟩ = some (.int .i64 (idxName (wd ws 0))) := (blk_cell BA5.out 0).trans rfl
        have hca_1 : w5.cell? ⟨ga, 1, none⟩ = some (.int .i64 (0)) := (blk_cell BA5.out 1).trans rfl
        have hca_2 : w5.cell? ⟨ga, 2, none⟩ = some (.int .i64 (0)) := (blk_cell BA5.out 2).trans rfl
        have hfa_0 := blk_frozen BA5.out 0
        have hfa_1 := blk_frozen BA5.out 1
        have hfa_2 := blk_frozen BA5.out 2
        have HNE := Aside0.mk (show (w.heap.size : Nat) ≠ ga by intro he; rw [he] at hne3; simp at hne3)
        have HNW := Aside0.mk (show ga ≠ gw by intro he; rw [he] at hne1; simp at hne1)
        by_cases c3 : 2 < ws.length
        · have c3b : decide ((2 : Int) < (ws.length : Int)) = true := decide_eq_true (by omega)
          have c3c : decide (2 < ws.length) = true := decide_eq_true c3
          have hd2 : ws[2]? = some (wd ws 2) := by unfold wd; rw [List.getD_eq_getElem?_getD, List.getElem?_eq_getElem (by omega)]; rfl
          have HU2 := Aside0.mk (show impl_ParseUint.f (wd ws 2) = some (uintB (wd ws 2)) from HSZ.out _ _ hd2)
          have p2 := eq_true (show (2 : Int) < (ws.length : Int) by omega)
          have hx2 : w5.cell? ⟨gw, 2, none⟩ = some (.string (wd ws 2)) := HW5.out.cell 2 _ hd2
          have hact : actOfB ws = (idxName (wd ws 0), (uintB (wd ws 1)).1, (uintB (wd ws 2)).1) := by unfold actOfB; rw [if_pos c3]
          rw [hact] at hF h
          have HFM := Aside0.mk (fun W hh => impl_FormatAct.calls _ _ _ tx fine W hF hh)
          clear hd2 hF hact
          go_wp2_with fail
          refine (impl_ParseUint.calls (wd ws 2) (uintB (wd ws 2)).1 (uintB (wd ws 2)).2 _ HU2.out (PowIs.on HT.out (by repeat (first | with_reducible exact HB5'.out | with_reducible apply below_alloc | with_reducible apply pw_below_drewN | with_reducible apply below_drew1 | with_reducible refine below_set ?_ HGA.out | with_reducible refine below_set ?_ (Nat.le_refl _))))).mono ?_
          rintro e w7 ⟨rfl, hb⟩
          have BA7 := Aside0.mk (blk_below (blk_put BA5.out 1 _ rfl) hb)
          have BR7 := Aside0.mk (blk_below (blk_far BR5.out HNE.out _) hb)
          have HW7 := Aside0.mk (Words.on (Words.set HW5.out HNW.out) hb)
          have HB7 := Aside0.mk (below_step (by repeat (first | with_reducible exact HB5'.out | with_reducible apply below_alloc | with_reducible apply pw_below_drewN | with_reducible apply below_drew1 | with_reducible refine below_set ?_ HGA.out | with_reducible refine below_set ?_ (Nat.le_refl _))) hb)
          clear hb hca_0 hca_1 hca_2 hfa_0 hfa_1 hfa_2 hx2 p2 BA5 BR5 HW5 HB5'
          have hca_0 : w7.cell? ⟨ga, 0, none⟩ = some (.int .i64 (idxName (wd ws 0))) := (blk_cell BA7.out 0).trans rfl
          have hca_1 : w7.cell? ⟨ga, 1, none⟩ = some (.int .i64 ((uintB (wd ws 1)).1)) := (blk_cell BA7.out 1).trans rfl
          have hca_2 : w7.cell? ⟨ga, 2, none⟩ = some (.int .i64 (0)) := (blk_cell BA7.out 2).trans rfl
          have hfa_0 := blk_frozen BA7.out 0
          have hfa_1 := blk_frozen BA7.out 1
          have hfa_2 := blk_frozen BA7.out 2
          go_wp2_with fail
          refine (HFM.out _ (PowIs.on HT.out (by repeat (first | with_reducible exact HB7.out | with_reducible apply below_alloc | with_reducible apply pw_below_drewN | with_reducible apply below_drew1 | with_reducible refine below_set ?_ HGA.out | with_reducible refine below_set ?_ (Nat.le_refl _))))).mono ?_
          rintro e w9 ⟨rfl, hb⟩
          have BA9 := Aside0.mk (blk_below (blk_put BA7.out 2 _ rfl) hb)
          have BR9 := Aside0.mk (blk_below (blk_far BR7.out HNE.out _) hb)
          have HW9 := Aside0.mk (Words.on (Words.set HW7.out HNW.out) hb)
          have HB9 := Aside0.mk (below_step (by repeat (first | with_reducible exact HB7.out | with_reducible apply below_alloc | with_reducible apply pw_below_drewN | with_reducible apply below_drew1 | with_reducible refine below_set ?_ HGA.out | with_reducible refine below_set ?_ (Nat.le_refl _))) hb)
          clear hb hca_0 hca_1 hca_2 hfa_0 hfa_1 hfa_2
          cases fine with
          | false =>
            rw [if_neg (by simp)] at h
            simp only [Option.some.injEq, Prod.mk.injEq] at h
            obtain ⟨rfl, rfl, rfl, rfl⟩ := h
            have hcr_0 : w9.cell? ⟨w.heap.size, 0, none⟩ = some (.int .i64 0) := (blk_cell BR9.out 0).trans rfl
            have hcr_1 : w9.cell? ⟨w.heap.size, 1, none⟩ = some (.int .i64 0) := (blk_cell BR9.out 1).trans rfl
            have hcr_2 : w9.cell? ⟨w.heap.size, 2, none⟩ = some (.int .i64 0) := (blk_cell BR9.out 2).trans rfl
            have hfr_0 := blk_frozen BR9.out 0
            have hfr_1 := blk_frozen BR9.out 1
            have hfr_2 := blk_frozen BR9.out 2
            go_wp2_with fail
            refine bodyPost_ret (results_cell2 rfl _ _ _ w.heap.size #[.int .i64 (0), .int .i64 (0), .int .i64 (0)] rfl (run_loadVar_row _ _ 26 _ _ (0, 0) _ (blk3 BR9.out) Tryd.underlying26 rfl (by kernel_rfl))) rfl ?_
            exact ⟨rfl, (by repeat (first | with_reducible exact HB9.out | with_reducible apply below_alloc | with_reducible apply pw_below_drewN | with_reducible apply below_drew1 | with_reducible refine below_set ?_ HGA.out | with_reducible refine below_set ?_ (Nat.le_refl _)))⟩
          | true =>
            rw [if_pos rfl] at h
            have HJ := Aside0.mk (fun (W : World) (hw : Words W gw ws) => (show Calls Tryd.prog 28 #[.slice (some ⟨gw, 0, none⟩) ws.length cap, .string ⟨#[32]⟩] W fun e w' => e = .returned (.string (joinB ws)) ∧ Below W.heap.size W w' from Any.strings_Join Tryd.laysJoin joinX gw 0 cap ws ⟨#[32]⟩ W hw.cell hw.lt HLEN.out.1 hcap HLEN.out.2))
            by_cases ce : tx.toList = (joinB ws).toList
            · rw [if_pos ce] at h
              simp only [Option.some.injEq, Prod.mk.injEq] at h
              obtain ⟨rfl, rfl, rfl, rfl⟩ := h
              have ceb : (tx.toList == (joinB ws).toList) = true := beq_iff_eq.mpr ce
              clear ce
              go_wp2_with fail
              refine (HJ.out _ HW9.out).mono ?_
              rintro e w11 ⟨rfl, hb⟩
              have BA11 := Aside0.mk (blk_below BA9.out hb)
              have BR11 := Aside0.mk (blk_below BR9.out hb)
              have HB11 := Aside0.mk (below_step HB9.out hb)
              clear hb
              have hca_0 : w11.cell? ⟨ga, 0, none⟩ = some (.int .i64 (idxName (wd ws 0))) := (blk_cell BA11.out 0).trans rfl
              have hca_1 : w11.cell? ⟨ga, 1, none⟩ = some (.int .i64 ((uintB (wd ws 1)).1)) := (blk_cell BA11.out 1).trans rfl
              have hca_2 : w11.cell? ⟨ga, 2, none⟩ = some (.int .i64 ((uintB (wd ws 2)).1)) := (blk_cell BA11.out 2).trans rfl
              have hfa_0 := blk_frozen BA11.out 0
              have hfa_1 := blk_frozen BA11.out 1
              have hfa_2 := blk_frozen BA11.out 2
              have hcr_0 : w11.cell? ⟨w.heap.size, 0, none⟩ = some (.int .i64 0) := (blk_cell BR11.out 0).trans rfl
              have hcr_1 : w11.cell? ⟨w.heap.size, 1, none⟩ = some (.int .i64 0) := (blk_cell BR11.out 1).trans rfl
              have hcr_2 : w11.cell? ⟨w.heap.size, 2, none⟩ = some (.int .i64 0) := (blk_cell BR11.out 2).trans rfl
              have hfr_0 := blk_frozen BR11.out 0
              have hfr_1 := blk_frozen BR11.out 1
              have hfr_2 := blk_frozen BR11.out 2
              go_wp2_with fail
              refine bodyPost_ret (results_cell2 rfl _ _ _ w.heap.size #[.int .i64 (idxName (wd ws 0)), .int .i64 ((uintB (wd ws 1)).1), .int .i64 ((uintB (wd ws 2)).1)] rfl (run_loadVar_row _ _ 26 _ _ (0, 0) _ (blk3 BR11.out) Tryd.underlying26 rfl (by kernel_rfl))) rfl ?_
              exact ⟨rfl, (by repeat (first | with_reducible exact HB11.out | with_reducible apply below_alloc | with_reducible apply pw_below_drewN | with_reducible apply below_drew1 | with_reducible refine below_set ?_ HGA.out | with_reducible refine below_set ?_ (Nat.le_refl _)))⟩
            · rw [if_neg ce] at h
              simp only [Option.some.injEq, Prod.mk.injEq] at h
              obtain ⟨rfl, rfl, rfl, rfl⟩ := h
              have ceb : (tx.toList == (joinB ws).toList) = false := beq_eq_false_iff_ne.mpr ce
              clear ce
              go_wp2_with fail
              refine (HJ.out _ HW9.out).mono ?_
              rintro e w11 ⟨rfl, hb⟩
              have BR11 := Aside0.mk (blk_below BR9.out hb)
              have HB11 := Aside0.mk (below_step HB9.out hb)
              clear hb
              have hcr_0 : w11.cell? ⟨w.heap.size, 0, none⟩ = some (.int .i64 0) := (blk_cell BR11.out 0).trans rfl
              have hcr_1 : w11.cell? ⟨w.heap.size, 1, none⟩ = some (.int .i64 0) := (blk_cell BR11.out 1).trans rfl
              have hcr_2 : w11.cell? ⟨w.heap.size, 2, none⟩ = some (.int .i64 0) := (blk_cell BR11.out 2).trans rfl
              have hfr_0 := blk_frozen BR11.out 0
              have hfr_1 := blk_frozen BR11.out 1
              have hfr_2 := blk_frozen BR11.out 2
              go_wp2_with fail
              refine bodyPost_ret (results_cell2 rfl _ _ _ w.heap.size #[.int .i64 (0), .int .i64 (0), .int .i64 (0)] rfl (run_loadVar_row _ _ 26 _ _ (0, 0) _ (blk3 BR11.out) Tryd.underlying26 rfl (by kernel_rfl))) rfl ?_
              exact ⟨rfl, (by repeat (first | with_reducible exact HB11.out | with_reducible apply below_alloc | with_reducible apply pw_below_drewN | with_reducible apply below_drew1 | with_reducible refine below_set ?_ HGA.out | with_reducible refine below_set ?_ (Nat.le_refl _)))⟩
        · have c3b : decide ((2 : Int) < (ws.length : Int)) = false := decide_eq_false (by omega)
          have c3c : decide (2 < ws.length) = false := decide_eq_false c3
          have hact : actOfB ws = (idxName (wd ws 0), (uintB (wd ws 1)).1, 0) := by unfold actOfB; rw [if_neg c3]
          rw [hact] at hF h
          have HFM := Aside0.mk (fun W hh => impl_FormatAct.calls _ _ _ tx fine W hF hh)
          clear hF hact
          go_wp2_with fail
          refine (HFM.out _ (PowIs.on HT.out (by repeat (first | with_reducible exact HB5'.out | with_reducible apply below_alloc | with_reducible apply pw_below_drewN | with_reducible apply below_drew1 | with_reducible refine below_set ?_ HGA.out | with_reducible refine below_set ?_ (Nat.le_refl _))))).mono ?_
          rintro e w9 ⟨rfl, hb⟩
          have BA9 := Aside0.mk (blk_below (blk_put BA5.out 1 _ rfl) hb)
          have BR9 := Aside0.mk (blk_below (blk_far BR5.out HNE.out _) hb)
          have HW9 := Aside0.mk (Words.on (Words.set HW5.out HNW.out) hb)
          have HB9 := Aside0.mk (below_step (by repeat (first | with_reducible exact HB5'.out | with_reducible apply below_alloc | with_reducible apply pw_below_drewN | with_reducible apply below_drew1 | with_reducible refine below_set ?_ HGA.out | with_reducible refine below_set ?_ (Nat.le_refl _))) hb)
          clear hb hca_0 hca_1 hca_2 hfa_0 hfa_1 hfa_2
          cases fine with
          | false =>
            rw [if_neg (by simp)] at h
            simp only [Option.some.injEq, Prod.mk.injEq] at h
            obtain ⟨rfl, rfl, rfl, rfl⟩ := h
            have hcr_0 : w9.cell? ⟨w.heap.size, 0, none⟩ = some (.int .i64 0) := (blk_cell BR9.out 0).trans rfl
            have hcr_1 : w9.cell? ⟨w.heap.size, 1, none⟩ = some (.int .i64 0) := (blk_cell BR9.out 1).trans rfl
            have hcr_2 : w9.cell? ⟨w.heap.size, 2, none⟩ = some (.int .i64 0) := (blk_cell BR9.out 2).trans rfl
            have hfr_0 := blk_frozen BR9.out 0
            have hfr_1 := blk_frozen BR9.out 1
            have hfr_2 := blk_frozen BR9.out 2
            go_wp2_with fail
            refine bodyPost_ret (results_cell2 rfl _ _ _ w.heap.size #[.int .i64 (0), .int .i64 (0), .int .i64 (0)] rfl (run_loadVar_row _ _ 26 _ _ (0, 0) _ (blk3 BR9.out) Tryd.underlying26 rfl (by kernel_rfl))) rfl ?_
            exact ⟨rfl, (by repeat (first | with_reducible exact HB9.out | with_reducible apply below_alloc | with_reducible apply pw_below_drewN | with_reducible apply below_drew1 | with_reducible refine below_set ?_ HGA.out | with_reducible refine below_set ?_ (Nat.le_refl _)))⟩
          | true =>
            rw [if_pos rfl] at h
            have HJ := Aside0.mk (fun (W : World) (hw : Words W gw ws) => (show Calls Tryd.prog 28 #[.slice (some ⟨gw, 0, none⟩) ws.length cap, .string ⟨#[32]⟩] W fun e w' => e = .returned (.string (joinB ws)) ∧ Below W.heap.size W w' from Any.strings_Join Tryd.laysJoin joinX gw 0 cap ws ⟨#[32]⟩ W hw.cell hw.lt HLEN.out.1 hcap HLEN.out.2))
            by_cases ce : tx.toList = (joinB ws).toList
            · rw [if_pos ce] at h
              simp only [Option.some.injEq, Prod.mk.injEq] at h
              obtain ⟨rfl, rfl, rfl, rfl⟩ := h
              have ceb : (tx.toList == (joinB ws).toList) = true := beq_iff_eq.mpr ce
              clear ce
              go_wp2_with fail
              refine (HJ.out _ HW9.out).mono ?_
              rintro e w11 ⟨rfl, hb⟩
              have BA11 := Aside0.mk (blk_below BA9.out hb)
              have BR11 := Aside0.mk (blk_below BR9.out hb)
              have HB11 := Aside0.mk (below_step HB9.out hb)
              clear hb
              have hca_0 : w11.cell? ⟨ga, 0, none⟩ = some (.int .i64 (idxName (wd ws 0))) := (blk_cell BA11.out 0).trans rfl
              have hca_1 : w11.cell? ⟨ga, 1, none⟩ = some (.int .i64 ((uintB (wd ws 1)).1)) := (blk_cell BA11.out 1).trans rfl
              have hca_2 : w11.cell? ⟨ga, 2, none⟩ = some (.int .i64 (0)) := (blk_cell BA11.out 2).trans rfl
              have hfa_0 := blk_frozen BA11.out 0
              have hfa_1 := blk_frozen BA11.out 1
              have hfa_2 := blk_frozen BA11.out 2
              have hcr_0 : w11.cell? ⟨w.heap.size, 0, none⟩ = some (.int .i64 0) := (blk_cell BR11.out 0).trans rfl
              have hcr_1 : w11.cell? ⟨w.heap.size, 1, none⟩ = some (.int .i64 0) := (blk_cell BR11.out 1).trans rfl
              have hcr_2 : w11.cell? ⟨w.heap.size, 2, none⟩ = some (.int .i64 0) := (blk_cell BR11.out 2).trans rfl
              have hfr_0 := blk_frozen BR11.out 0
              have hfr_1 := blk_frozen BR11.out 1
              have hfr_2 := blk_frozen BR11.out 2
              go_wp2_with fail
              refine bodyPost_ret (results_cell2 rfl _ _ _ w.heap.size #[.int .i64 (idxName (wd ws 0)), .int .i64 ((uintB (wd ws 1)).1), .int .i64 (0)] rfl (run_loadVar_row _ _ 26 _ _ (0, 0) _ (blk3 BR11.out) Tryd.underlying26 rfl (by kernel_rfl))) rfl ?_
              exact ⟨rfl, (by repeat (first | with_reducible exact HB11.out | with_reducible apply below_alloc | with_reducible apply pw_below_drewN | with_reducible apply below_drew1 | with_reducible refine below_set ?_ HGA.out | with_reducible refine below_set ?_ (Nat.le_refl _)))⟩
            · rw [if_neg ce] at h
              simp only [Option.some.injEq, Prod.mk.injEq] at h
              obtain ⟨rfl, rfl, rfl, rfl⟩ := h
              have ceb : (tx.toList == (joinB ws).toList) = false := beq_eq_false_iff_ne.mpr ce
              clear ce
              go_wp2_with fail
              refine (HJ.out _ HW9.out).mono ?_
              rintro e w11 ⟨rfl, hb⟩
              have BR11 := Aside0.mk (blk_below BR9.out hb)
              have HB11 := Aside0.mk (below_step HB9.out hb)
              clear hb
              have hcr_0 : w11.cell? ⟨w.heap.size, 0, none⟩ = some (.int .i64 0) := (blk_cell BR11.out 0).trans rfl
              have hcr_1 : w11.cell? ⟨w.heap.size, 1, none⟩ = some (.int .i64 0) := (blk_cell BR11.out 1).trans rfl
              have hcr_2 : w11.cell? ⟨w.heap.size, 2, none⟩ = some (.int .i64 0) := (blk_cell BR11.out 2).trans rfl
              have hfr_0 := blk_frozen BR11.out 0
              have hfr_1 := blk_frozen BR11.out 1
              have hfr_2 := blk_frozen BR11.out 2
              go_wp2_with fail
              refine bodyPost_ret (results_cell2 rfl _ _ _ w.heap.size #[.int .i64 (0), .int .i64 (0), .int .i64 (0)] rfl (run_loadVar_row _ _ 26 _ _ (0, 0) _ (blk3 BR11.out) Tryd.underlying26 rfl (by kernel_rfl))) rfl ?_
              exact ⟨rfl, (by repeat (first | with_reducible exact HB11.out | with_reducible apply below_alloc | with_reducible apply pw_below_drewN | with_reducible apply below_drew1 | with_reducible refine below_set ?_ HGA.out | with_reducible refine below_set ?_ (Nat.le_refl _)))⟩

end Go.Proofs.YthpmdppkladbfaaDoor.Q
