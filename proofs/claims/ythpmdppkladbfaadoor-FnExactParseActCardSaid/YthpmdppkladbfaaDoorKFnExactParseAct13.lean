/- The pure statement of FnExactFormatAct. -/
import Derived.Test.YthpmdppkladbfaaDoorKFnExactParseAct12
namespace Go.Proofs.YthpmdppkladbfaaDoor.Q
open Go Go.RowKit Go.Proofs.YthpmdppkladbfaaDoorW.PrintWords Go.Proofs.YthpmdppkladbfaaDoorW.PrintLast Go.Proofs.YthpmdppkladbfaaDoorW.PrintMore
set_option linter.unusedVariables false
set_option linter.unusedSimpArgs false

theorem actOk_same (k a b : Int) : spec_ActOk.f k a b = impl_ActOk.f k a b := by
  unfold spec_ActOk.f impl_ActOk.f impl_isStride.f impl_IsWord.f spec_IsWord.f
  simp only [within_f, l01In_f, Option.bind_some]
theorem actOk_some (k a b : Int) : ∃ t, impl_ActOk.f k a b = some t := by
  unfold impl_ActOk.f impl_isStride.f impl_IsWord.f
  simp only [within_f, Option.bind_some]
  repeat' split
  all_goals exact ⟨_, rfl⟩
theorem fin_B : (⟨#[102, 105, 110, 105, 115, 104, 32]⟩ : ByteArray) = nameK 3 ++ ⟨#[32]⟩ := by decide
theorem sp_size : (⟨#[32]⟩ : ByteArray).size = 1 := rfl
theorem spec_FormatAct_f (k a b : Int) : spec_FormatAct.f k a b = impl_FormatAct.f k a b := by
  unfold spec_FormatAct.f impl_FormatAct.f
  rw [actOk_same]
  obtain ⟨t, ht⟩ := actOk_some k a b
  rw [ht, Option.bind_some, Option.bind_some]
  cases t with
  | false => rfl
  | true =>
    obtain ⟨hk, ha, hb⟩ := actOk_bounds ht
    have z1 := decB_size a ha.1 (by omega)
    have z2 := decB_size b hb.1 (by omega)
    have fa : spec_FormatInt.f a = some (decB a) := by unfold spec_FormatInt.f; rw [if_pos (by omega)]
    have fb : spec_FormatInt.f b = some (decB b) := by unfold spec_FormatInt.f; rw [if_pos (by omega)]
    simp only [eq_self, if_true]
    unfold actB
    by_cases c3 : k = 3
    · rw [if_pos c3, if_pos c3, fa, Option.bind_some, if_pos (by omega), fin_B, c3]; rfl
    · rw [if_neg c3, if_neg c3]
      have hn : rdOf ByteArray.empty [(⟨#[]⟩ : ByteArray), ⟨#[115, 116, 101, 112]⟩, ⟨#[112, 105, 99, 107]⟩, ⟨#[]⟩, ⟨#[112, 111, 107, 101]⟩] k = nameK k := by
        rcases hk with rfl | rfl | rfl | rfl
        · rfl
        · rfl
        · exact absurd rfl c3
        · rfl
      have z0 := nameK_size k hk
      have zs := sp_size
      simp only [Option.bind_some, hn, fa, fb]
      rw [if_pos (by omega), if_pos (by simp; omega), if_pos (by omega), if_pos (by rw [ByteArray.size_append, zs]; omega), if_pos (by rw [ByteArray.size_append, ByteArray.size_append, zs]; omega), if_pos (by rw [ByteArray.size_append, ByteArray.size_append, ByteArray.size_append, zs]; omega)]
      simp only [ByteArray.append_assoc, if_true]
end Go.Proofs.YthpmdppkladbfaaDoor.Q
