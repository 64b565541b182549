/- The plain law of FnExactMoveWall: for every argument the printed law function answers true. No condition beyond the statement's own. -/
import Derived.Test.YthijdgnfoilaeaaMoveWall
set_option linter.unusedVariables false
set_option linter.unusedSimpArgs false
namespace Go.Proofs.Ythijdgnfoilaeaa.Pure
open Go.RowKit Go.Proofs.Ythijdgnfoilaeaa.PFnExactMirrorLadders Go.Proofs.YthijdgnfoilaeaaW.PrintWords Go.Proofs.YthijdgnfoilaeaaW.PrintLast Go.Proofs.YthijdgnfoilaeaaW.PrintMore
namespace FnExactMoveWallL
theorem wrap_id {x : Int} (h0 : -9223372036854775808 ≤ x) (h1 : x ≤ 9223372036854775807) : wrap64 x = x := by unfold wrap64; omega

theorem in_eq (a b c : Int) : spec_l1In.f a b c = some (decide (b ≤ a ∧ a ≤ c)) := by
  unfold spec_l1In.f
  by_cases h : a ≥ b
  · rw [if_pos h]; simp [h]
  · rw [if_neg h]; simp; omega

theorem within_eq (a b c : Int) : impl_within.f a b c = some (decide (b ≤ a ∧ a ≤ c)) := by
  unfold impl_within.f
  by_cases h : a ≥ b
  · rw [if_pos h]; simp [h]
  · rw [if_neg h]; simp; omega

theorem mulb {a b A B : Int} (ha : 0 ≤ a) (ha2 : a ≤ A) (hb : 0 ≤ b) (hb2 : b ≤ B) : 0 ≤ a * b ∧ a * b ≤ A * B :=
  ⟨Int.mul_nonneg ha hb, Int.mul_le_mul ha2 hb2 hb (by omega)⟩


theorem lad_spec (a b c : Int) : spec_clGood.f a b c = some (decide ((1 ≤ a ∧ a ≤ 1000) ∧ (1 ≤ b ∧ b ≤ 1000) ∧ (1 ≤ c ∧ c ≤ 1000))) := by
  simp only [spec_clGood.f, in_eq, Option.bind_some, decide_eq_true_eq]
  by_cases h : 1 ≤ a ∧ a ≤ 1000 <;> by_cases h2 : 1 ≤ b ∧ b ≤ 1000 <;> simp [h, h2]

theorem lad_impl (a b c : Int) : impl_AreLadders.f a b c = some (decide ((1 ≤ a ∧ a ≤ 1000) ∧ (1 ≤ b ∧ b ≤ 1000) ∧ (1 ≤ c ∧ c ≤ 1000))) := by
  simp only [impl_AreLadders.f, impl_isWide.f, within_eq, Option.bind_some, decide_eq_true_eq]
  by_cases h : 1 ≤ a ∧ a ≤ 1000 <;> by_cases h2 : 1 ≤ b ∧ b ≤ 1000 <;> simp [h, h2]


theorem chk (a b c : Int) : impl_checkedLadders.f a b c = some (if (1 ≤ a ∧ a ≤ 1000) ∧ (1 ≤ b ∧ b ≤ 1000) ∧ (1 ≤ c ∧ c ≤ 1000) then (a, b, c, true) else (0, 0, 0, false)) := by
  simp only [impl_checkedLadders.f, lad_impl, Option.bind_some, decide_eq_true_eq]
  by_cases h : (1 ≤ a ∧ a ≤ 1000) ∧ (1 ≤ b ∧ b ≤ 1000) ∧ (1 ≤ c ∧ c ≤ 1000)
  · rw [if_pos h, if_pos h]
  · rw [if_neg h, if_neg h]
end FnExactMoveWallL
open FnExactMoveWallL

theorem FnExactMoveWall (a b c d : Int) (w : World) : Calls Try.prog 6 #[.agg #[.int .i64 a, .int .i64 b, .int .i64 c], .int .i64 d] w fun e w' => e = .returned (.bool true) ∧ Below w.heap.size w w' := by
  by_cases h1 : (1 ≤ a ∧ a ≤ 1000) ∧ (1 ≤ b ∧ b ≤ 1000) ∧ (1 ≤ c ∧ c ≤ 1000)
  · have g1 : spec_clGood.f a b c = some true := by rw [lad_spec, decide_eq_true h1]
    have g2 : impl_AreLadders.f a b c = some true := by rw [lad_impl, decide_eq_true h1]
    by_cases h2 : -1000 ≤ d ∧ d ≤ 1000
    · have g3 : spec_l1In.f d (-1000) 1000 = some true := by rw [in_eq, decide_eq_true h2]
      have g4 : impl_within.f d (-1000) 1000 = some true := by rw [within_eq, decide_eq_true h2]
      by_cases h3 : 1 ≤ wrap64 (a + d) ∧ wrap64 (a + d) ≤ 1000
      · have g5 : spec_l1In.f (wrap64 (a + d)) 1 1000 = some true := by rw [in_eq, decide_eq_true h3]
        have g6 : impl_checkedLadders.f (wrap64 (a + d)) b c = some (wrap64 (a + d), b, c, true) := by rw [chk, if_pos ⟨h3, h1.2⟩]
        exact MoveWall.law_walk a b c d _ _ _ _ (fun W => MoveWall.spec_yes a b c d W g1 g3 g5) (fun W => MoveWall.impl_yes a b c d _ _ _ _ W g2 g4 g6) w
      · have g5 : spec_l1In.f (wrap64 (a + d)) 1 1000 = some false := by rw [in_eq, decide_eq_false h3]
        have g6 : impl_checkedLadders.f (wrap64 (a + d)) b c = some (0, 0, 0, false) := by rw [chk, if_neg (fun x => h3 x.1)]
        exact MoveWall.law_walk a b c d _ _ _ _ (fun W => MoveWall.spec_no3 a b c d W g1 g3 g5) (fun W => MoveWall.impl_yes a b c d _ _ _ _ W g2 g4 g6) w
    · have g3 : spec_l1In.f d (-1000) 1000 = some false := by rw [in_eq, decide_eq_false h2]
      have g4 : impl_within.f d (-1000) 1000 = some false := by rw [within_eq, decide_eq_false h2]
      exact MoveWall.law_walk a b c d _ _ _ _ (fun W => MoveWall.spec_no2 a b c d W g1 g3) (fun W => MoveWall.impl_no2 a b c d W g2 g4) w
  · have g1 : spec_clGood.f a b c = some false := by rw [lad_spec, decide_eq_false h1]
    have g2 : impl_AreLadders.f a b c = some false := by rw [lad_impl, decide_eq_false h1]
    exact MoveWall.law_walk a b c d _ _ _ _ (fun W => MoveWall.spec_no1 a b c d W g1) (fun W => MoveWall.impl_no1 a b c d W g2) w

end Go.Proofs.Ythijdgnfoilaeaa.Pure
