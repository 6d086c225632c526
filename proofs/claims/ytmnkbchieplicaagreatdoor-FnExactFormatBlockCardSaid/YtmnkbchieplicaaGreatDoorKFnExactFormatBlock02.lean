/- More words that make printed proofs short: each is a lemma with a proof of its own by default. -/
import Derived.Test.YtmnkbchieplicaaGreatDoorKFnExactFormatBlock01
namespace Go.Proofs.YtmnkbchieplicaaGreatDoor.Q
open Go.RowKit Go.Proofs.YtmnkbchieplicaaGreatDoorW.PrintWords Go.Proofs.YtmnkbchieplicaaGreatDoorW.PrintLast Go.Proofs.YtmnkbchieplicaaGreatDoorW.PrintMore
set_option linter.unusedVariables false
set_option linter.unusedSimpArgs false

theorem bk {g : Nat} {o : Obj} {W : World} (h : W.heap[g]? = some o := by (repeat (first | (with_reducible first | exact Aside0.out (by assumption) | refine blk_drewN ?_ _ | refine blk_drew ?_ | refine blk_alloc ?_ _ | refine blk_far ?_ (Aside0.out (by assumption)) _ | apply blk_put) | rfl))) : W.heap[g]? = some o := h
theorem bkp {g : Nat} {o : Obj} {W : World} (h : W.heap[g]? = some o := by (repeat (first | (with_reducible first | exact Aside0.out (by assumption) | refine blk_drewN ?_ _ | refine blk_drew ?_ | refine blk_alloc ?_ _ | refine blk_far ?_ (Aside0.out (by assumption)) _ | apply blk_put) | rfl))) : W.heap[g]? = some o := h
theorem rfx {α : Sort _} {a b : α} (h : a = b := by first | rfl | (simp; done) | (simp [*]; done)) : a = b := h
theorem rfe {α : Sort _} {a b : α} (h : a = b := by first | rfl | (simp [errW_none, errW_some] <;> rfl) | (simp [*, errW_none, errW_some] <;> rfl)) : a = b := h
theorem omx {a b : Nat} (h : a ≤ b := by first | omega | exact Nat.le_refl _) : a ≤ b := h
theorem hxb {w W : World} {p : Addr} {v : Value} (h : w.cell? p = some v) (hb : Below w.heap.size w W := by repeat (first | (with_reducible first | exact HB.out | apply below_alloc | apply pw_below_drewN | apply below_drew1 | refine below_set ?_ (Aside0.out (by assumption))) | exact HB.out)) : W.cell? p = some v := (hb.cell (World.block_lt_of_cell? w _ h)).trans h
theorem hxw {w W1 W : World} (h0 : Aside0 (Below w.heap.size w W1)) {p : Addr} {v : Value} (h : w.cell? p = some v := by assumption) (hb : Below w.heap.size w W := by repeat (first | (with_reducible first | exact HB.out | apply below_alloc | apply pw_below_drewN | apply below_drew1 | refine below_set ?_ (Aside0.out (by assumption))) | exact HB.out)) : W.cell? p = some v := (hb.cell (World.block_lt_of_cell? w _ h)).trans h
theorem nlw {w : World} {p : Addr} {v : Value} {g : Nat} (h : w.cell? p = some v) (hg : Aside0 (w.heap.size ≤ g)) : p.block ≠ g := Nat.ne_of_lt (Nat.lt_of_lt_of_le (World.block_lt_of_cell? _ _ h) hg.out)
theorem nlv {w : World} {p q : Addr} {v : Value} {g : Nat} (h : w.cell? p = some v) (hg : Aside0 (w.heap.size ≤ g)) (hq : q.block = p.block := by first | rfl | (rw [add_block]) | (rw [add_block, add_block])) : q.block ≠ g := by rw [hq]; exact nlw h hg
theorem hd {p : Prop} (h : p := by ((try dsimp only); (repeat (first | refine And.intro ?_ ?_ | exact bz (by assumption) _ | exact bz ⟨bk⟩ _ | exact hxw HB | assumption)))) : p := h
theorem oI {α : Type} {a b : α} (h : some a = some b) : a = b := Option.some.inj h
theorem kbb {g : Nat} {o : Obj} {W0 W1 W2 : World} (h : Aside0 (W0.heap[g]? = some o)) (hb : Below W1.heap.size W1 W2) (hs : W1.heap[g]? = some o := by exact bk) : Aside0 (W2.heap[g]? = some o) := ⟨blk_below hs hb⟩
theorem nmA {α β : Type} (e : α) {f : α → Option β} {r : β} (h : (some e).bind f = some r) : ∃ y, Aside0 (y = e) ∧ f y = some r := ⟨e, ⟨rfl⟩, h⟩
theorem exE {α : Type} (e : α) : ∃ y : α, y = e := ⟨e, rfl⟩
theorem nmZ {α β : Type} {y e : α} {f : α → Option β} {r : β} (hy : y = e) (h : (some e).bind f = some r) : f y = some r := by subst hy; exact h
theorem pq0 {b : Prop} [Decidable b] (h : decide b = true := by first | (with_reducible assumption) | assumption) : b := of_decide_eq_true h
theorem hbs {w W w2 : World} (hb : Below W.heap.size W w2) (h : Below w.heap.size w W := by repeat (first | (with_reducible first | exact HB.out | apply below_alloc | apply pw_below_drewN | apply below_drew1 | refine below_set ?_ (Aside0.out (by assumption))) | exact HB.out)) : Aside0 (Below w.heap.size w w2) := ⟨below_step h hb⟩
theorem kb {g : Nat} {o : Obj} {W0 W1 W2 : World} (h : Aside0 (W0.heap[g]? = some o)) (hb : Below W1.heap.size W1 W2) (hs : W1.heap[g]? = some o := by ((with_reducible repeat (first | refine blk_drewN ?_ _ | refine blk_drew ?_ | refine blk_alloc ?_ _)); exact Aside0.out (by assumption))) : Aside0 (W2.heap[g]? = some o) := ⟨blk_below hs hb⟩
theorem pqa {a b X : Prop} (f : a → b → X) (p : a := by exact pq0) (q : b := by exact pq0) : a = True ∧ b = True ∧ X := ⟨eq_true p, eq_true q, f p q⟩
theorem ifS {α : Type} {c : Prop} [Decidable c] {a : Option α} {r : α} (h : (if c then a else none) = some r) : c ∧ a = some r := if hc : c then ⟨hc, by rwa [if_pos hc] at h⟩ else by rw [if_neg hc] at h; cases h
section
variable {P : Program} {ops : Array Oper} {o : Oper} {a : Act} {Q : Exit → Act → World → Prop} {rest : List Oper}
theorem bxe {W : World} (N : Tmp) (cs : Array Value) (t : TypeId) (h : ∀ g, g = W.heap.size → ∀ w1, w1.heap[g]? = some (.cells cs t (0, 0)) → Below W.heap.size W w1 → wpList P ops Q rest (a.put o.dst (.pointer (some ⟨g, 0, none⟩))) w1) (hd : o.dst = some N := by rfl) (hgd : o.guard = none := by rfl)
    (hrun : (execOp a.eval o).run P W = .ok (.value (.pointer (some ⟨W.heap.size, 0, none⟩))) (W.alloc (.cells cs t (0, 0))) := by exact gs) : wpList P ops Q (o :: rest) a W := box_event hgd hd hrun h
theorem gL (f : FuncId) (N : Option Tmp) {fn : Func} (hf : P.funcs[f]? = some fn) (args : Array Value) {w : World} {xs : Array Operand} {ts : Array TypeId} (h : Calls P f args w fun e w' => ∃ v, e = .returned v ∧ wpList P ops Q rest (a.put N v) w')
    (hop : o.op = .call { callee := .value (.func f), args := xs, argTypes := ts } := by with_reducible rfl) (hd : o.dst = N := by rfl) (hg : o.guard = none := by rfl) (hname : (fn.name == "runtime.NumGoroutine") = false := by kernel_rfl) (hb : fn.body.isSome = true := by rfl)
    (hargs : xs.map a.eval = args := by exact slq) : wpList P ops Q (o :: rest) a w := goesL_ N hd hg hf hname hb args hop hargs h
end

section
variable {P : Program} {ops : Array Oper} {S : World → Prop} {Q : Exit → Act → World → Prop} {ds : List Nat}
def Wk (_i _n : Nat) (G : Prop) : Prop := G
theorem wkE {n : Nat} {G : Prop} (h : G) : Wk n n G := h
theorem wkp {i n N : Nat} {oi : Oper} {v : Value} {fuel : Nat} {l : Array Bool} {a a' : Act} {w : World} (h : Wk (i + 1) n (wpAnyLast P .any ops Q S ds fuel (l.setIfInBounds i true) a' w)) (hi : ops[i]? = some oi := by rfl) (hN : oi.dst = some N := by rfl) (hc : anyB .any ops l (l.setIfInBounds i true) i = true := by exact any_of HT_.out (by kernel_rfl))
    (hQ : ∀ c a w, Q (.panic c) (a.put oi.dst v) w → Q (.panic c) a w := by exact fun _ _ _ h => h) (hy : Yields P ops oi v a := by (refine Or.inl ⟨by rfl, ?_⟩; intro w'; go_simp; with_reducible rfl)) (ha : a.put (some N) v = a' := by (simp only [Act.put, List.setIfInBounds_toArray, List.set_cons_zero, List.set_cons_succ, i64_w, i32_w]; rfl)) :
    Wk i n (wpAnyLast P .any ops Q S ds (fuel + 1) l a w) := pure_ (i := i) (N := some N) (l.setIfInBounds i true) hi hN hc hQ hy ha h
theorem wku {i n N : Nat} {oi : Oper} {fuel : Nat} {l : Array Bool} {a a' : Act} {w : World} (h : Wk (i + 1) n (wpAnyLast P .any ops Q S ds fuel (l.setIfInBounds i true) a' w)) (hi : ops[i]? = some oi := by rfl) (hN : oi.dst = some N := by rfl) (hc : anyB .any ops l (l.setIfInBounds i true) i = true := by exact any_of HT_.out (by kernel_rfl))
    (hQ : ∀ c a w, Q (.panic c) (a.put oi.dst undef) w → Q (.panic c) a w := by exact fun _ _ _ h => h) (hy : Yields P ops oi undef a := by exact Or.inr ⟨by rfl, rfl⟩) (ha : a.put (some N) undef = a' := by (simp only [Act.put, List.setIfInBounds_toArray, List.set_cons_zero, List.set_cons_succ, i64_w, i32_w]; rfl)) :
    Wk i n (wpAnyLast P .any ops Q S ds (fuel + 1) l a w) := pure_ (i := i) (N := some N) (l.setIfInBounds i true) hi hN hc hQ hy ha h
theorem wp (i n : Nat) {G G' : Prop} (k : G') (h : G' → Wk i n G := by (intro k_; (repeat refine wkp ?_); exact wkE k_)) : G := h k
theorem wu (i n : Nat) {G G' : Prop} (k : G') (h : G' → Wk i n G := by (intro k_; (repeat refine wku ?_); exact wkE k_)) : G := h k
end

end Go.Proofs.YtmnkbchieplicaaGreatDoor.Q
