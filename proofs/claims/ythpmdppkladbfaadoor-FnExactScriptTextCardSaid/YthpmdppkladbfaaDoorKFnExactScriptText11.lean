/- The pure statement of FnExactScriptText. -/
import Derived.Test.YthpmdppkladbfaaDoorKFnExactScriptText10
namespace Go.Proofs.YthpmdppkladbfaaDoor.Q
open Go Go.RowKit Go.Proofs.YthpmdppkladbfaaDoorW.PrintWords Go.Proofs.YthpmdppkladbfaaDoorW.PrintLast Go.Proofs.YthpmdppkladbfaaDoorW.PrintMore
set_option linter.unusedVariables false
set_option linter.unusedSimpArgs false

theorem wrap_act (j : Nat) (h : j < 2000000) : wrap64 ((j : Int) + 1) = ((j + 1 : Nat) : Int) := by unfold wrap64; omega
theorem toActS_ev (l : List S23) (hl : l.length ≤ 1048576) : ∃ T : List S26, T.length = l.length ∧ Ev (fun k => laws_toActS.f k l) T := by
  have key : ∀ d (i : Nat) (acc : List S26), acc.length = l.length → l.length - i = d → i ≤ l.length → ∃ T : List S26, T.length = l.length ∧ Ev (fun k => laws_toActS.l0 k l acc (i : Int)) T := by
    intro d
    induction d with
    | zero =>
      intro i acc ha hd hi
      have c1 : ¬ (i : Int) < (l.length : Int) := by omega
      refine ⟨acc, ha, Ev.step (f := fun _ => some acc) (fun k => ?_) (Ev.now _)⟩
      simp only [laws_toActS.l0]
      rw [if_neg c1]
    | succ d ih =>
      intro i acc ha hd hi
      have c1 : (i : Int) < (l.length : Int) := by omega
      have c2 : (0 : Int) ≤ (i : Int) := by omega
      have c3 : (i : Int) < (acc.length : Int) := by omega
      have a : i < 2000000 := by omega
      obtain ⟨T, hT, hE⟩ := ih (i + 1) (acc.set (i : Int).toNat ⟨(rd_T23 l (i : Int)).f0, (rd_T23 l (i : Int)).f1, (rd_T23 l (i : Int)).f2⟩) (by rw [List.length_set]; exact ha) (by omega) (by omega)
      have ew := wrap_act i a
      refine ⟨T, hT, Ev.step (fun k => ?_) hE⟩
      simp only [laws_toActS.l0, laws_toAct.f, Option.bind_some]
      rw [if_pos c1, if_pos c2, if_pos c3, ew]
  obtain ⟨T, hT, hE⟩ := key l.length 0 (List.replicate ((l.length : Int)).toNat z26) (by simp) (by omega) (by omega)
  refine ⟨T, hT, Ev.congr (fun k => ?_) hE⟩
  unfold laws_toActS.f
  rw [if_pos (by omega), if_pos (by omega)]
  rfl
theorem eqActS_ev (T : List S26) (hl : T.length ≤ 1048576) : Ev (fun k => laws_eqActS.f k T T) true := by
  have key : ∀ d (i : Nat), T.length - i = d → i ≤ T.length → Ev (fun k => laws_eqActS.l0 k T T (i : Int)) true := by
    intro d
    induction d with
    | zero =>
      intro i hd hi
      have c1 : ¬ (i : Int) < (T.length : Int) := by omega
      refine Ev.step (f := fun _ => some true) (fun k => ?_) (Ev.now _)
      simp only [laws_eqActS.l0]
      rw [if_neg c1]
    | succ d ih =>
      intro i hd hi
      have c1 : (i : Int) < (T.length : Int) := by omega
      have c2 : (0 : Int) ≤ (i : Int) := by omega
      have a : i < 2000000 := by omega
      have hih := ih (i + 1) (by omega) (by omega)
      have ew := wrap_act i a
      refine Ev.step (fun k => ?_) hih
      simp only [laws_eqActS.l0, laws_eqAct.f, if_true, Option.bind_some]
      rw [if_pos c1, if_pos c2, if_pos c1, ew]
  refine Ev.congr (fun k => ?_) (key T.length 0 (by omega) (by omega))
  unfold laws_eqActS.f
  rw [if_pos rfl]
  rfl
theorem nums_back (s : ByteArray) : strOfNums (bytesOf s) = s := by
  unfold Go.Proofs.YthpmdppkladbfaaDoorW.PrintWords.bytesOf
  rw [Lib.Lz.strOfNums_map]
theorem bytes_app (a b : ByteArray) : bytesOf a ++ bytesOf b = bytesOf (a ++ b) := by
  unfold Go.Proofs.YthpmdppkladbfaaDoorW.PrintWords.bytesOf
  rw [ByteArray.data_append, Array.toList_append, List.map_append]
theorem act_some (k a b : Int) : ∃ B t, impl_FormatAct.f k a b = some (B, t) ∧ B.size ≤ 60 := by
  obtain ⟨t, ht⟩ := actOk_some k a b
  unfold impl_FormatAct.f
  rw [ht, Option.bind_some]
  cases t with
  | false => exact ⟨_, _, rfl, by decide⟩
  | true =>
    obtain ⟨hk, ha, hb⟩ := actOk_bounds ht
    have z1 := decB_size a ha.1 ha.2
    have z2 := decB_size b hb.1 hb.2
    have z0 := nameK_size k hk
    have zs := sp_size
    refine ⟨actB k a b, true, rfl, ?_⟩
    unfold actB
    split
    · rw [ByteArray.size_append, ByteArray.size_append, zs]; omega
    · rw [ByteArray.size_append, ByteArray.size_append, ByteArray.size_append, ByteArray.size_append, zs]; omega
theorem nl_size : (⟨#[10]⟩ : ByteArray).size = 1 := rfl
theorem script_ev (T : List S26) : ∃ R : ByteArray × Bool, Ev (fun k => spec_ScriptText.f k T) R ∧ Ev (fun k => impl_ScriptText.f k T) R := by
  by_cases h30 : T.length ≤ 30
  · have key : ∀ d (i : Nat) (acc : ByteArray), T.length - i = d → i ≤ T.length → acc.size ≤ 61 * i → ∃ R : ByteArray × Bool, Ev (fun k => spec_ScriptText.l0 k T (bytesOf acc) (i : Int)) R ∧ Ev (fun k => impl_ScriptText.l0 k acc T (T.length : Int) (i : Int)) R := by
      intro d
      induction d with
      | zero =>
        intro i acc hd hi hz
        have c1 : ¬ (i : Int) < (T.length : Int) := by omega
        refine ⟨(acc, true), Ev.step (f := fun _ => some (acc, true)) (fun k => ?_) (Ev.now _), Ev.step (f := fun _ => some (acc, true)) (fun k => ?_) (Ev.now _)⟩
        · simp only [spec_ScriptText.l0]
          rw [if_neg c1, nums_back]
        · simp only [impl_ScriptText.l0]
          rw [if_neg c1]
      | succ d ih =>
        intro i acc hd hi hz
        have c1 : (i : Int) < (T.length : Int) := by omega
        have c2 : (0 : Int) ≤ (i : Int) := by omega
        have c3 : ¬ (T.length : Int) > 30 := by omega
        have a : i < 2000000 := by omega
        obtain ⟨B, t, hB, hBs⟩ := act_some (rd_T26 T (i : Int)).f0 (rd_T26 T (i : Int)).f1 (rd_T26 T (i : Int)).f2
        have hS := spec_FormatAct_f (rd_T26 T (i : Int)).f0 (rd_T26 T (i : Int)).f1 (rd_T26 T (i : Int)).f2
        rw [hB] at hS
        cases t with
        | false =>
          refine ⟨(⟨#[]⟩, false), Ev.step (f := fun _ => some (⟨#[]⟩, false)) (fun k => ?_) (Ev.now _), Ev.step (f := fun _ => some (⟨#[]⟩, false)) (fun k => ?_) (Ev.now _)⟩
          · simp only [spec_ScriptText.l0]
            rw [if_pos c1, if_pos c2, hS, Option.bind_some, if_neg (by simp)]
          · simp only [impl_ScriptText.l0]
            rw [if_pos c1, if_pos c2, if_pos c1, hB, Option.bind_some, if_neg (by simp)]
        | true =>
          have zn := nl_size
          have e1 : (B ++ (⟨#[10]⟩ : ByteArray)).size = B.size + 1 := by rw [ByteArray.size_append, zn]
          have e2 : (acc ++ (B ++ (⟨#[10]⟩ : ByteArray))).size = acc.size + (B.size + 1) := by rw [ByteArray.size_append, e1]
          have e3 : (bytesOf acc).length = acc.size := Go.Proofs.YthpmdppkladbfaaDoorW.PrintWords.bytesOf_length acc
          obtain ⟨R, r1, r2⟩ := ih (i + 1) (acc ++ (B ++ (⟨#[10]⟩ : ByteArray))) (by omega) (by omega) (by omega)
          have d1 : B.size + 1 ≤ 9223372036854775807 := by omega
          have d2 : (bytesOf acc).length + (B ++ (⟨#[10]⟩ : ByteArray)).size < 140737488355328 := by omega
          have d3 : acc.size + (B ++ (⟨#[10]⟩ : ByteArray)).size ≤ 9223372036854775807 := by omega
          have ew := wrap_act i a
          refine ⟨R, Ev.step (fun k => ?_) r1, Ev.step (fun k => ?_) r2⟩
          · simp only [spec_ScriptText.l0]
            rw [if_pos c1, if_pos c2, hS, Option.bind_some, if_pos rfl, if_neg c3, if_pos d1, if_pos d2, bytes_app, ew]
          · simp only [impl_ScriptText.l0]
            rw [if_pos c1, if_pos c2, if_pos c1, hB, Option.bind_some, if_pos rfl, if_pos d1, if_pos d3, ew]
    obtain ⟨R, r1, r2⟩ := key T.length 0 ⟨#[]⟩ (by omega) (by omega) (by decide)
    refine ⟨R, r1, Ev.congr (fun k => ?_) r2⟩
    unfold impl_ScriptText.f
    rw [if_neg (by omega)]
    rfl
  · have c1 : (0 : Int) < (T.length : Int) := by omega
    have c2 : (0 : Int) ≤ (0 : Int) := by omega
    have c3 : (T.length : Int) > 30 := by omega
    obtain ⟨B, t, hB, hBs⟩ := act_some (rd_T26 T 0).f0 (rd_T26 T 0).f1 (rd_T26 T 0).f2
    have hS := spec_FormatAct_f (rd_T26 T 0).f0 (rd_T26 T 0).f1 (rd_T26 T 0).f2
    rw [hB] at hS
    refine ⟨(⟨#[]⟩, false), Ev.step (f := fun _ => some (⟨#[]⟩, false)) (fun k => ?_) (Ev.now _), Ev.congr (f := fun _ => some (⟨#[]⟩, false)) (fun k => ?_) (Ev.now _)⟩
    · unfold spec_ScriptText.f
      simp only [spec_ScriptText.l0]
      rw [if_pos c1, if_pos c2, hS, Option.bind_some]
      cases t
      · rw [if_neg (by simp)]
      · rw [if_pos rfl, if_pos c3]
    · unfold impl_ScriptText.f
      rw [if_pos c3]
theorem FnExactScriptText : ∀ (l0 : List S23), l0.length ≤ maxLen → (∀ x ∈ l0, (Lit.int .i64 x.f0).wf = true ∧ (Lit.int .i64 x.f1).wf = true ∧ (Lit.int .i64 x.f2).wf = true) → ∃ k, laws_FnExactScriptText.f k l0 = some true := by
  intro l hm _
  unfold maxLen at hm
  by_cases hb : l.length ≤ 1048576
  · have ew : wrap64 (1048576 - (l.length : Int)) = 1048576 - (l.length : Int) := by unfold wrap64; omega
    have c1 : ¬ 1048576 - (l.length : Int) < 0 := by clear ew; omega
    obtain ⟨T, hT, eT⟩ := toActS_ev l hb
    obtain ⟨R, r1, r2⟩ := script_ev T
    have e3 := eqActS_ev T (by clear ew; omega)
    have hall : Ev (fun k => laws_FnExactScriptText.f k l) true := by
      refine Ev.congr (f := fun k => (laws_toActS.f k l).bind fun t173 => ((spec_ScriptText.f k t173).bind fun bt176 => ((laws_toActS.f k l).bind fun t178 => ((impl_ScriptText.f k t178).bind fun bt181 => (if bt181.1.toList = bt176.1.toList then (laws_FnExactScriptText.j0 k l t178 (bt181.2 != bt176.2)) else (laws_FnExactScriptText.j0 k l t178 true)))))) (fun k => ?_) ?_
      · unfold laws_FnExactScriptText.f laws_szActS.f
        rw [ew, if_neg c1, Option.bind_some, if_neg c1]
      · refine Ev.bind eT (Ev.bind r1 (Ev.bind eT (Ev.bind r2 ?_)))
        simp only [if_true, bne_self_eq_false]
        refine Ev.step (f := fun k => (laws_toActS.f k l).bind fun t183 => ((laws_eqActS.f k T t183).bind fun t186 => (if t186 = true then (some true) else (some false)))) (fun k => ?_) ?_
        · simp only [laws_FnExactScriptText.j0]
          rfl
        · refine Ev.bind eT (Ev.bind e3 ?_)
          exact Ev.now _
    exact hall.rounds
  · have ew : wrap64 (1048576 - (l.length : Int)) < 0 := by unfold wrap64; omega
    refine ⟨0, ?_⟩
    unfold laws_FnExactScriptText.f laws_szActS.f
    rw [if_pos ew, Option.bind_some, if_pos (by decide)]

end Go.Proofs.YthpmdppkladbfaaDoor.Q
