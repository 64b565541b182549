/- The plain law of FnExactUnfoldedPlace: for every argument the printed law function answers true. No condition beyond the statement's own. -/
import Derived.Test.YtheeghlfckhdeaaPFnExactUnfoldedPlacex2
set_option linter.unusedVariables false
set_option linter.unusedSimpArgs false
namespace Go.Proofs.Ytheeghlfckhdeaa.Pure
open Go.RowKit Go.Proofs.Ytheeghlfckhdeaa.PFnExactUnfoldedPlace Go.Proofs.YtheeghlfckhdeaaW.PrintWords Go.Proofs.YtheeghlfckhdeaaW.PrintLast Go.Proofs.YtheeghlfckhdeaaW.PrintMore
namespace FnExactUnfoldedPlaceL
theorem wrap_id {x : Int} (h0 : -9223372036854775808 ≤ x) (h1 : x ≤ 9223372036854775807) : wrap64 x = x := by unfold wrap64; omega

theorem in_eq (a b c : Int) : spec_l1In.f a b c = some (decide (b ≤ a ∧ a ≤ c)) := by
  unfold spec_l1In.f
  by_cases h : a ≥ b
  · rw [if_pos h]; simp [h]
  · rw [if_neg h]; simp; omega

theorem within_eq (a b c : Int) : impl_within.f a b c = some (decide (b ≤ a ∧ a ≤ c)) := by
  unfold impl_within.f
  by_cases h : a ≥ b
  · rw [if_pos h]; simp [h]
  · rw [if_neg h]; simp; omega

theorem mulb {a b A B : Int} (ha : 0 ≤ a) (ha2 : a ≤ A) (hb : 0 ≤ b) (hb2 : b ≤ B) : 0 ≤ a * b ∧ a * b ≤ A * B :=
  ⟨Int.mul_nonneg ha hb, Int.mul_le_mul ha2 hb2 hb (by omega)⟩


theorem tab_spec (a b : Int) : spec_beTable.f a b = some (decide ((1 ≤ a ∧ a ≤ 60) ∧ (1 ≤ b ∧ b ≤ 60))) := by
  simp only [spec_beTable.f, in_eq, Option.bind_some, decide_eq_true_eq]
  by_cases h : 1 ≤ a ∧ a ≤ 60 <;> simp [h]

theorem tab_impl (a b : Int) : impl_IsTable.f a b = some (decide ((1 ≤ a ∧ a ≤ 60) ∧ (1 ≤ b ∧ b ≤ 60))) := by
  simp only [impl_IsTable.f, within_eq, Option.bind_some, decide_eq_true_eq]
  by_cases h : 1 ≤ a ∧ a ≤ 60 <;> simp [h]

theorem beam_spec (a b x y : Int) (r u : Bool) : spec_beGood.f a b x y r u = some (decide (((1 ≤ a ∧ a ≤ 60) ∧ (1 ≤ b ∧ b ≤ 60)) ∧ (0 ≤ x ∧ x ≤ a) ∧ (0 ≤ y ∧ y ≤ b))) := by
  simp only [spec_beGood.f, tab_spec, in_eq, Option.bind_some, decide_eq_true_eq]
  by_cases h : (1 ≤ a ∧ a ≤ 60) ∧ (1 ≤ b ∧ b ≤ 60) <;> by_cases h2 : 0 ≤ x ∧ x ≤ a <;> simp [h, h2]

theorem beam_impl (a b x y : Int) (r u : Bool) : impl_IsBeam.f a b x y r u = some (decide (((1 ≤ a ∧ a ≤ 60) ∧ (1 ≤ b ∧ b ≤ 60)) ∧ (0 ≤ x ∧ x ≤ a) ∧ (0 ≤ y ∧ y ≤ b))) := by
  simp only [impl_IsBeam.f, tab_impl, within_eq, Option.bind_some, decide_eq_true_eq]
  by_cases h : (1 ≤ a ∧ a ≤ 60) ∧ (1 ≤ b ∧ b ≤ 60) <;> by_cases h2 : 0 ≤ x ∧ x ≤ a <;> simp [h, h2]



end FnExactUnfoldedPlaceL
open FnExactUnfoldedPlaceL

theorem FnExactUnfoldedPlace (a b x y : Int) (r u : Bool) (n : Int) (_ : (Lit.int .i64 a).wf = true) (_ : (Lit.int .i64 b).wf = true) (_ : (Lit.int .i64 x).wf = true) (_ : (Lit.int .i64 y).wf = true) (_ : (Lit.int .i64 n).wf = true) : ∃ k, laws_FnExactUnfoldedPlace.f k a b x y r u n = some true := by
  refine ⟨1, ?_⟩
  simp only [laws_FnExactUnfoldedPlace.f, laws_toTable.f, laws_toBeam.f, spec_UnfoldedPlace.f, spec_beAsked.f, impl_UnfoldedPlace.f, impl_UnfoldedPlace.j0, impl_isSteps.f, impl_sign.f, beam_spec, beam_impl, in_eq, within_eq, Option.bind_some, decide_eq_true_eq]
  by_cases h : ((1 ≤ a ∧ a ≤ 60) ∧ (1 ≤ b ∧ b ≤ 60)) ∧ (0 ≤ x ∧ x ≤ a) ∧ (0 ≤ y ∧ y ≤ b)
  · rw [if_pos h, if_pos h]
    by_cases h2 : 0 ≤ n ∧ n ≤ 100000
    · have e : (!decide (0 ≤ n ∧ n ≤ 100000)) = false := by simp [h2]
      rw [e]
      simp only [Option.bind_some, decide_eq_true_eq]
      rw [if_pos h2, wrap_id (x := x + n) (by omega) (by omega), wrap_id (x := y + n) (by omega) (by omega), wrap_id (x := x - n) (by omega) (by omega), wrap_id (x := y - n) (by omega) (by omega)]
      have f1 : wrap64 (n * 1) = n := by rw [Int.mul_one]; exact wrap_id (by omega) (by omega)
      have f2 : wrap64 (n * -1) = -n := by rw [show n * -1 = -n by omega]; exact wrap_id (by omega) (by omega)
      have g1 : wrap64 (x + -n) = x - n := by rw [show x + -n = x - n by omega]; exact wrap_id (by omega) (by omega)
      have g2 : wrap64 (y + -n) = y - n := by rw [show y + -n = y - n by omega]; exact wrap_id (by omega) (by omega)
      have g3 : wrap64 (x + n) = x + n := wrap_id (by omega) (by omega)
      have g4 : wrap64 (y + n) = y + n := wrap_id (by omega) (by omega)
      cases r <;> cases u <;> simp only [if_true, if_false, Bool.false_eq_true, Option.bind_some, f1, f2, g1, g2, g3, g4] <;> simp
    · have e : (!decide (0 ≤ n ∧ n ≤ 100000)) = true := by simp only [h2]; rfl
      rw [e]
      simp [h2]
  · rw [if_neg h, if_neg h]; simp

end Go.Proofs.Ytheeghlfckhdeaa.Pure
