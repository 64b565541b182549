/- The plain law of FnExactSquaresOf: for every argument the printed law function answers true. No condition beyond the statement's own. -/
import Derived.Test.YtphkmfmjmelfjaaPFnExactSquaresOfx1
set_option linter.unusedVariables false
set_option linter.unusedSimpArgs false
namespace Go.Proofs.Ytphkmfmjmelfjaa.Pure
open Go.RowKit Go.Proofs.Ytphkmfmjmelfjaa.PFnExactSquaresOf Go.Proofs.YtphkmfmjmelfjaaW.PrintWords Go.Proofs.YtphkmfmjmelfjaaW.PrintLast Go.Proofs.YtphkmfmjmelfjaaW.PrintMore
namespace FnExactSquaresOfL
theorem wrap_id {x : Int} (h0 : -9223372036854775808 ≤ x) (h1 : x ≤ 9223372036854775807) : wrap64 x = x := by unfold wrap64; omega

theorem in_eq (a b c : Int) : spec_l1In.f a b c = some (decide (b ≤ a ∧ a ≤ c)) := by
  unfold spec_l1In.f
  by_cases h : a ≥ b
  · rw [if_pos h]; simp [h]
  · rw [if_neg h]; simp; omega

theorem within_eq (a b c : Int) : impl_within.f a b c = some (decide (b ≤ a ∧ a ≤ c)) := by
  unfold impl_within.f
  by_cases h : a ≥ b
  · rw [if_pos h]; simp [h]
  · rw [if_neg h]; simp; omega



end FnExactSquaresOfL
open FnExactSquaresOfL

theorem FnExactSquaresOf (a b c : Int) (_ : (Lit.int .i64 a).wf = true) (_ : (Lit.int .i64 b).wf = true) (_ : (Lit.int .i64 c).wf = true) : laws_FnExactSquaresOf.f a b c = some true := by
  simp only [laws_FnExactSquaresOf.f, laws_toLadders.f, spec_SquaresOf.f, impl_SquaresOf.f, spec_clSquares.f, spec_clGood.f, impl_AreLadders.f, impl_isWide.f, in_eq, within_eq, Option.bind_some, decide_eq_true_eq]
  by_cases h : 1 ≤ a ∧ a ≤ 1000 <;> by_cases h2 : 1 ≤ b ∧ b ≤ 1000 <;> by_cases h3 : 1 ≤ c ∧ c ≤ 1000 <;> simp [h, h2, h3]

end Go.Proofs.Ytphkmfmjmelfjaa.Pure
