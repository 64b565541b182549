/- The plain law of FnExactBackBeam: for every argument the printed law function answers true. No condition beyond the statement's own. -/
import Derived.Test.YtheeghlfckhdeaaBackBeam
set_option linter.unusedVariables false
set_option linter.unusedSimpArgs false
namespace Go.Proofs.Ytheeghlfckhdeaa.Pure
open Go.RowKit Go.Proofs.Ytheeghlfckhdeaa.PFnExactBackBeam Go.Proofs.YtheeghlfckhdeaaW.PrintWords Go.Proofs.YtheeghlfckhdeaaW.PrintLast Go.Proofs.YtheeghlfckhdeaaW.PrintMore
namespace FnExactBackBeamL
theorem wrap_id {x : Int} (h0 : -9223372036854775808 ≤ x) (h1 : x ≤ 9223372036854775807) : wrap64 x = x := by unfold wrap64; omega

theorem in_eq (a b c : Int) : spec_l1In.f a b c = some (decide (b ≤ a ∧ a ≤ c)) := by
  unfold spec_l1In.f
  by_cases h : a ≥ b
  · rw [if_pos h]; simp [h]
  · rw [if_neg h]; simp; omega

theorem within_eq (a b c : Int) : impl_within.f a b c = some (decide (b ≤ a ∧ a ≤ c)) := by
  unfold impl_within.f
  by_cases h : a ≥ b
  · rw [if_pos h]; simp [h]
  · rw [if_neg h]; simp; omega

theorem mulb {a b A B : Int} (ha : 0 ≤ a) (ha2 : a ≤ A) (hb : 0 ≤ b) (hb2 : b ≤ B) : 0 ≤ a * b ∧ a * b ≤ A * B :=
  ⟨Int.mul_nonneg ha hb, Int.mul_le_mul ha2 hb2 hb (by omega)⟩


theorem tab_spec (a b : Int) : spec_beTable.f a b = some (decide ((1 ≤ a ∧ a ≤ 60) ∧ (1 ≤ b ∧ b ≤ 60))) := by
  simp only [spec_beTable.f, in_eq, Option.bind_some, decide_eq_true_eq]
  by_cases h : 1 ≤ a ∧ a ≤ 60 <;> simp [h]

theorem tab_impl (a b : Int) : impl_IsTable.f a b = some (decide ((1 ≤ a ∧ a ≤ 60) ∧ (1 ≤ b ∧ b ≤ 60))) := by
  simp only [impl_IsTable.f, within_eq, Option.bind_some, decide_eq_true_eq]
  by_cases h : 1 ≤ a ∧ a ≤ 60 <;> simp [h]

theorem beam_spec (a b x y : Int) (r u : Bool) : spec_beGood.f a b x y r u = some (decide (((1 ≤ a ∧ a ≤ 60) ∧ (1 ≤ b ∧ b ≤ 60)) ∧ (0 ≤ x ∧ x ≤ a) ∧ (0 ≤ y ∧ y ≤ b))) := by
  simp only [spec_beGood.f, tab_spec, in_eq, Option.bind_some, decide_eq_true_eq]
  by_cases h : (1 ≤ a ∧ a ≤ 60) ∧ (1 ≤ b ∧ b ≤ 60) <;> by_cases h2 : 0 ≤ x ∧ x ≤ a <;> simp [h, h2]

theorem beam_impl (a b x y : Int) (r u : Bool) : impl_IsBeam.f a b x y r u = some (decide (((1 ≤ a ∧ a ≤ 60) ∧ (1 ≤ b ∧ b ≤ 60)) ∧ (0 ≤ x ∧ x ≤ a) ∧ (0 ≤ y ∧ y ≤ b))) := by
  simp only [impl_IsBeam.f, tab_impl, within_eq, Option.bind_some, decide_eq_true_eq]
  by_cases h : (1 ≤ a ∧ a ≤ 60) ∧ (1 ≤ b ∧ b ≤ 60) <;> by_cases h2 : 0 ≤ x ∧ x ≤ a <;> simp [h, h2]



end FnExactBackBeamL
open FnExactBackBeamL

theorem FnExactBackBeam (a b c d : Int) (e f : Bool) (W : World) : Calls Try.prog 4 #[.agg #[.int .i64 a, .int .i64 b], .agg #[.int .i64 c, .int .i64 d, .bool e, .bool f]] W fun en w' => en = .returned (.bool true) ∧ Below W.heap.size W w' := by
  by_cases h : ((1 ≤ a ∧ a ≤ 60) ∧ (1 ≤ b ∧ b ≤ 60)) ∧ (0 ≤ c ∧ c ≤ a) ∧ (0 ≤ d ∧ d ≤ b)
  · exact BackBeam.law_walk a b c d c d e f (!e) (!f) true
      (fun w => spec_BackBeam.calls a b c d e f c d (!e) (!f) true w (by simp only [spec_BackBeam.f, beam_spec, Option.bind_some]; rw [if_pos (decide_eq_true h)]))
      (fun w => impl_BackBeam.calls a b c d e f c d (!e) (!f) true w (by simp only [impl_BackBeam.f, beam_impl, Option.bind_some]; rw [if_pos (decide_eq_true h)])) W
  · exact BackBeam.law_walk a b c d 0 0 e f false false false
      (fun w => spec_BackBeam.calls a b c d e f 0 0 false false false w (by simp only [spec_BackBeam.f, beam_spec, Option.bind_some]; rw [if_neg (by simpa using h)]))
      (fun w => impl_BackBeam.calls a b c d e f 0 0 false false false w (by simp only [impl_BackBeam.f, beam_impl, Option.bind_some]; rw [if_neg (by simpa using h)])) W

end Go.Proofs.Ytheeghlfckhdeaa.Pure
