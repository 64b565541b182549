/- The plain law of FnExactTimesLadders: for every argument the printed law function answers true. No condition beyond the statement's own. -/
import Derived.Test.YthijdgnfoilaeaaPFnExactTimesLaddersx1
set_option linter.unusedVariables false
set_option linter.unusedSimpArgs false
namespace Go.Proofs.Ythijdgnfoilaeaa.Pure
open Go.RowKit Go.Proofs.Ythijdgnfoilaeaa.PFnExactTimesLadders Go.Proofs.YthijdgnfoilaeaaW.PrintWords Go.Proofs.YthijdgnfoilaeaaW.PrintLast Go.Proofs.YthijdgnfoilaeaaW.PrintMore
namespace FnExactTimesLaddersL
theorem wrap_id {x : Int} (h0 : -9223372036854775808 ≤ x) (h1 : x ≤ 9223372036854775807) : wrap64 x = x := by unfold wrap64; omega

theorem in_eq (a b c : Int) : spec_l1In.f a b c = some (decide (b ≤ a ∧ a ≤ c)) := by
  unfold spec_l1In.f
  by_cases h : a ≥ b
  · rw [if_pos h]; simp [h]
  · rw [if_neg h]; simp; omega

theorem within_eq (a b c : Int) : impl_within.f a b c = some (decide (b ≤ a ∧ a ≤ c)) := by
  unfold impl_within.f
  by_cases h : a ≥ b
  · rw [if_pos h]; simp [h]
  · rw [if_neg h]; simp; omega

theorem mulb {a b A B : Int} (ha : 0 ≤ a) (ha2 : a ≤ A) (hb : 0 ≤ b) (hb2 : b ≤ B) : 0 ≤ a * b ∧ a * b ≤ A * B :=
  ⟨Int.mul_nonneg ha hb, Int.mul_le_mul ha2 hb2 hb (by omega)⟩


theorem lad_spec (a b c : Int) : spec_clGood.f a b c = some (decide ((1 ≤ a ∧ a ≤ 1000) ∧ (1 ≤ b ∧ b ≤ 1000) ∧ (1 ≤ c ∧ c ≤ 1000))) := by
  simp only [spec_clGood.f, in_eq, Option.bind_some, decide_eq_true_eq]
  by_cases h : 1 ≤ a ∧ a ≤ 1000 <;> by_cases h2 : 1 ≤ b ∧ b ≤ 1000 <;> simp [h, h2]

theorem lad_impl (a b c : Int) : impl_AreLadders.f a b c = some (decide ((1 ≤ a ∧ a ≤ 1000) ∧ (1 ≤ b ∧ b ≤ 1000) ∧ (1 ≤ c ∧ c ≤ 1000))) := by
  simp only [impl_AreLadders.f, impl_isWide.f, within_eq, Option.bind_some, decide_eq_true_eq]
  by_cases h : 1 ≤ a ∧ a ≤ 1000 <;> by_cases h2 : 1 ≤ b ∧ b ≤ 1000 <;> simp [h, h2]



end FnExactTimesLaddersL
open FnExactTimesLaddersL

theorem FnExactTimesLadders (a b c d : Int) (_ : (Lit.int .i64 a).wf = true) (_ : (Lit.int .i64 b).wf = true) (_ : (Lit.int .i64 c).wf = true) (_ : (Lit.int .i64 d).wf = true) : ∃ k, laws_FnExactTimesLadders.f k a b c d = some true := by
  refine ⟨1, ?_⟩
  simp only [laws_FnExactTimesLadders.f, laws_toLadders.f, spec_TimesLadders.f, spec_TimesLadders.j0, impl_TimesLadders.f, impl_isWide.f, impl_checkedLadders.f, laws_eqLadders.f, lad_spec, lad_impl, in_eq, within_eq, Option.bind_some, decide_eq_true_eq, Int.mul_comm d]
  by_cases h : (1 ≤ a ∧ a ≤ 1000) ∧ (1 ≤ b ∧ b ≤ 1000) ∧ (1 ≤ c ∧ c ≤ 1000)
  · rw [if_pos h, if_pos h]
    by_cases h2 : 1 ≤ d ∧ d ≤ 1000
    · rw [if_pos h2]
      have e : (!decide (1 ≤ d ∧ d ≤ 1000)) = false := by simp [h2]
      rw [e, if_neg (by simp)]
      by_cases h3 : (1 ≤ wrap64 (a * d) ∧ wrap64 (a * d) ≤ 1000) ∧ (1 ≤ wrap64 (b * d) ∧ wrap64 (b * d) ≤ 1000) ∧ (1 ≤ wrap64 (c * d) ∧ wrap64 (c * d) ≤ 1000)
      · rw [if_pos h3]; simp
      · rw [if_neg h3]; simp
    · have e : (!decide (1 ≤ d ∧ d ≤ 1000)) = true := by simp only [h2]; rfl
      rw [if_neg h2, e]; simp
  · rw [if_neg h, if_neg h]; simp

end Go.Proofs.Ythijdgnfoilaeaa.Pure
