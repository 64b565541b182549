/- The plain law of FnExactIsBeam: for every argument the printed law function answers true. No condition beyond the statement's own. -/
import Derived.Test.YtphkmfmjmelfjaaPFnExactIsBeamx1
set_option linter.unusedVariables false
set_option linter.unusedSimpArgs false
namespace Go.Proofs.Ytphkmfmjmelfjaa.Pure
open Go.RowKit Go.Proofs.Ytphkmfmjmelfjaa.PFnExactIsBeam Go.Proofs.YtphkmfmjmelfjaaW.PrintWords Go.Proofs.YtphkmfmjmelfjaaW.PrintLast Go.Proofs.YtphkmfmjmelfjaaW.PrintMore
namespace FnExactIsBeamL
theorem wrap_id {x : Int} (h0 : -9223372036854775808 ≤ x) (h1 : x ≤ 9223372036854775807) : wrap64 x = x := by unfold wrap64; omega

theorem in_eq (a b c : Int) : spec_l1In.f a b c = some (decide (b ≤ a ∧ a ≤ c)) := by
  unfold spec_l1In.f
  by_cases h : a ≥ b
  · rw [if_pos h]; simp [h]
  · rw [if_neg h]; simp; omega

theorem within_eq (a b c : Int) : impl_within.f a b c = some (decide (b ≤ a ∧ a ≤ c)) := by
  unfold impl_within.f
  by_cases h : a ≥ b
  · rw [if_pos h]; simp [h]
  · rw [if_neg h]; simp; omega



end FnExactIsBeamL
open FnExactIsBeamL

theorem FnExactIsBeam (a b x y : Int) (r u : Bool) (_ : (Lit.int .i64 a).wf = true) (_ : (Lit.int .i64 b).wf = true) (_ : (Lit.int .i64 x).wf = true) (_ : (Lit.int .i64 y).wf = true) : laws_FnExactIsBeam.f a b x y r u = some true := by
  simp only [laws_FnExactIsBeam.f, laws_toTable.f, laws_toBeam.f, spec_IsBeam.f, spec_beGood.f, spec_beTable.f, impl_IsBeam.f, impl_IsTable.f, in_eq, within_eq, Option.bind_some, decide_eq_true_eq]
  by_cases h : 1 ≤ a ∧ a ≤ 60 <;> by_cases h2 : 1 ≤ b ∧ b ≤ 60 <;> by_cases h3 : 0 ≤ x ∧ x ≤ a <;> simp [h, h2, h3]

end Go.Proofs.Ytphkmfmjmelfjaa.Pure
