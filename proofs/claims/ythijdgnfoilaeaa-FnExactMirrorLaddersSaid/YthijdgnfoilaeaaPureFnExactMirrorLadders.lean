/- The plain law of FnExactMirrorLadders: for every argument the printed law function answers true. No condition beyond the statement's own. -/
import Derived.Test.YthijdgnfoilaeaaPFnExactMirrorLaddersx1
set_option linter.unusedVariables false
set_option linter.unusedSimpArgs false
namespace Go.Proofs.Ythijdgnfoilaeaa.Pure
open Go.RowKit Go.Proofs.Ythijdgnfoilaeaa.PFnExactMirrorLadders Go.Proofs.YthijdgnfoilaeaaW.PrintWords Go.Proofs.YthijdgnfoilaeaaW.PrintLast Go.Proofs.YthijdgnfoilaeaaW.PrintMore
namespace FnExactMirrorLaddersL
theorem wrap_id {x : Int} (h0 : -9223372036854775808 ≤ x) (h1 : x ≤ 9223372036854775807) : wrap64 x = x := by unfold wrap64; omega

theorem in_eq (a b c : Int) : spec_l1In.f a b c = some (decide (b ≤ a ∧ a ≤ c)) := by
  unfold spec_l1In.f
  by_cases h : a ≥ b
  · rw [if_pos h]; simp [h]
  · rw [if_neg h]; simp; omega

theorem within_eq (a b c : Int) : impl_within.f a b c = some (decide (b ≤ a ∧ a ≤ c)) := by
  unfold impl_within.f
  by_cases h : a ≥ b
  · rw [if_pos h]; simp [h]
  · rw [if_neg h]; simp; omega

theorem mulb {a b A B : Int} (ha : 0 ≤ a) (ha2 : a ≤ A) (hb : 0 ≤ b) (hb2 : b ≤ B) : 0 ≤ a * b ∧ a * b ≤ A * B :=
  ⟨Int.mul_nonneg ha hb, Int.mul_le_mul ha2 hb2 hb (by omega)⟩


theorem lad_spec (a b c : Int) : spec_clGood.f a b c = some (decide ((1 ≤ a ∧ a ≤ 1000) ∧ (1 ≤ b ∧ b ≤ 1000) ∧ (1 ≤ c ∧ c ≤ 1000))) := by
  simp only [spec_clGood.f, in_eq, Option.bind_some, decide_eq_true_eq]
  by_cases h : 1 ≤ a ∧ a ≤ 1000 <;> by_cases h2 : 1 ≤ b ∧ b ≤ 1000 <;> simp [h, h2]

theorem lad_impl (a b c : Int) : impl_AreLadders.f a b c = some (decide ((1 ≤ a ∧ a ≤ 1000) ∧ (1 ≤ b ∧ b ≤ 1000) ∧ (1 ≤ c ∧ c ≤ 1000))) := by
  simp only [impl_AreLadders.f, impl_isWide.f, within_eq, Option.bind_some, decide_eq_true_eq]
  by_cases h : 1 ≤ a ∧ a ≤ 1000 <;> by_cases h2 : 1 ≤ b ∧ b ≤ 1000 <;> simp [h, h2]



end FnExactMirrorLaddersL
open FnExactMirrorLaddersL

theorem FnExactMirrorLadders (a b c : Int) (_ : (Lit.int .i64 a).wf = true) (_ : (Lit.int .i64 b).wf = true) (_ : (Lit.int .i64 c).wf = true) : laws_FnExactMirrorLadders.f a b c = some true := by
  simp only [laws_FnExactMirrorLadders.f, laws_toLadders.f, spec_MirrorLadders.f, impl_MirrorLadders.f, impl_checkedLadders.f, laws_eqLadders.f, lad_spec, lad_impl, Option.bind_some, decide_eq_true_eq]
  by_cases h : (1 ≤ a ∧ a ≤ 1000) ∧ (1 ≤ b ∧ b ≤ 1000) ∧ (1 ≤ c ∧ c ≤ 1000)
  · have h2 : (1 ≤ a ∧ a ≤ 1000) ∧ (1 ≤ c ∧ c ≤ 1000) ∧ (1 ≤ b ∧ b ≤ 1000) := by omega
    rw [if_pos h, if_pos h2]; simp
  · have h2 : ¬ ((1 ≤ a ∧ a ≤ 1000) ∧ (1 ≤ c ∧ c ≤ 1000) ∧ (1 ≤ b ∧ b ≤ 1000)) := by omega
    rw [if_neg h, if_neg h2]; simp

end Go.Proofs.Ythijdgnfoilaeaa.Pure
