/- The plain law of FnExactIsTable: for every argument the printed law function answers true. No condition beyond the statement's own. -/
import Derived.Test.YtphkmfmjmelfjaaPFnExactIsTablex1
set_option linter.unusedVariables false
set_option linter.unusedSimpArgs false
namespace Go.Proofs.Ytphkmfmjmelfjaa.Pure
open Go.RowKit Go.Proofs.Ytphkmfmjmelfjaa.PFnExactIsTable Go.Proofs.YtphkmfmjmelfjaaW.PrintWords Go.Proofs.YtphkmfmjmelfjaaW.PrintLast Go.Proofs.YtphkmfmjmelfjaaW.PrintMore
namespace FnExactIsTableL
theorem wrap_id {x : Int} (h0 : -9223372036854775808 ≤ x) (h1 : x ≤ 9223372036854775807) : wrap64 x = x := by unfold wrap64; omega

theorem in_eq (a b c : Int) : spec_l1In.f a b c = some (decide (b ≤ a ∧ a ≤ c)) := by
  unfold spec_l1In.f
  by_cases h : a ≥ b
  · rw [if_pos h]; simp [h]
  · rw [if_neg h]; simp; omega

theorem within_eq (a b c : Int) : impl_within.f a b c = some (decide (b ≤ a ∧ a ≤ c)) := by
  unfold impl_within.f
  by_cases h : a ≥ b
  · rw [if_pos h]; simp [h]
  · rw [if_neg h]; simp; omega



end FnExactIsTableL
open FnExactIsTableL

theorem FnExactIsTable (a b : Int) (_ : (Lit.int .i64 a).wf = true) (_ : (Lit.int .i64 b).wf = true) : laws_FnExactIsTable.f a b = some true := by
  simp only [laws_FnExactIsTable.f, laws_toTable.f, spec_IsTable.f, spec_beTable.f, impl_IsTable.f, in_eq, within_eq, Option.bind_some, decide_eq_true_eq]
  by_cases h : 1 ≤ a ∧ a ≤ 60 <;> simp [h]

end Go.Proofs.Ytphkmfmjmelfjaa.Pure
