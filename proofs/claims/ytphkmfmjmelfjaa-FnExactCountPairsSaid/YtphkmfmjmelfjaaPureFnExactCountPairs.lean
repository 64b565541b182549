/- The plain law of FnExactCountPairs: for every argument the printed law function answers true. No condition beyond the statement's own. -/
import Derived.Test.YtphkmfmjmelfjaaPFnExactCountPairsx1
set_option linter.unusedVariables false
set_option linter.unusedSimpArgs false
namespace Go.Proofs.Ytphkmfmjmelfjaa.Pure
open Go.RowKit Go.Proofs.Ytphkmfmjmelfjaa.PFnExactCountPairs Go.Proofs.YtphkmfmjmelfjaaW.PrintWords Go.Proofs.YtphkmfmjmelfjaaW.PrintLast Go.Proofs.YtphkmfmjmelfjaaW.PrintMore
namespace FnExactCountPairsL
theorem wrap_id {x : Int} (h0 : -9223372036854775808 ≤ x) (h1 : x ≤ 9223372036854775807) : wrap64 x = x := by unfold wrap64; omega

theorem in_eq (a b c : Int) : spec_l1In.f a b c = some (decide (b ≤ a ∧ a ≤ c)) := by
  unfold spec_l1In.f
  by_cases h : a ≥ b
  · rw [if_pos h]; simp [h]
  · rw [if_neg h]; simp; omega

theorem within_eq (a b c : Int) : impl_within.f a b c = some (decide (b ≤ a ∧ a ≤ c)) := by
  unfold impl_within.f
  by_cases h : a ≥ b
  · rw [if_pos h]; simp [h]
  · rw [if_neg h]; simp; omega

theorem mulb {a b A B : Int} (ha : 0 ≤ a) (ha2 : a ≤ A) (hb : 0 ≤ b) (hb2 : b ≤ B) : 0 ≤ a * b ∧ a * b ≤ A * B :=
  ⟨Int.mul_nonneg ha hb, Int.mul_le_mul ha2 hb2 hb (by omega)⟩


theorem stepK {α : Type} {g f : Nat → Option α} {r : α} (K0 : Nat) (h : ∀ k, K0 ≤ k → g (k + 1) = f k) (hf : Ev f r) : Ev g r := by
  obtain ⟨K, hK⟩ := hf
  refine ⟨K + K0 + 1, fun k hk => ?_⟩
  obtain ⟨k, rfl⟩ : ∃ m, k = m + 1 := ⟨k - 1, by omega⟩
  rw [h k (by omega), hK k (by omega)]
theorem congrK {α : Type} {g f : Nat → Option α} {r : α} (K0 : Nat) (h : ∀ k, K0 ≤ k → g k = f k) (hf : Ev f r) : Ev g r := by
  obtain ⟨K, hK⟩ := hf
  exact ⟨K + K0, fun k hk => by rw [h k (by omega), hK k (by omega)]⟩


theorem pairs_l (a : Int) (ha : 1 ≤ a ∧ a ≤ 200) (n : Nat) : ∀ (L : List (List Int)) (d : Int), 1 ≤ d → a < d + n → d ≤ a + 1 → L.length + n ≤ 1000 →
    ∃ R : List (List Int), Ev (fun k => spec_clPairs.l0 k a L d) R ∧ Ev (fun k => impl_PairsFor.l0 k a L d) (R, true) ∧ R.length ≤ 1000 := by
  induction n with
  | zero =>
    intro L d h0 h1 h2 h3
    refine ⟨L, Ev.step (f := fun _ => some L) (fun k => ?_) (Ev.now _), Ev.step (f := fun _ => some (L, true)) (fun k => ?_) (Ev.now _), by omega⟩
    · simp only [spec_clPairs.l0]
      rw [if_neg (by omega)]
    · simp only [impl_PairsFor.l0]
      rw [if_neg (by omega)]
  | succ n ih =>
    intro L d h0 h1 h2 h3
    by_cases c : d ≤ a
    · by_cases c2 : Int.tmod (wrap64 (a * a)) d = 0
      · obtain ⟨R, e1, e2, e3⟩ := ih (L ++ [(([wrap64 (a + d), wrap64 (a + (wrap64 (Int.tdiv (wrap64 (a * a)) d)))] : List Int))]) (d + 1) (by omega) (by omega) (by omega) (by simp; omega)
        refine ⟨R, Ev.step (fun k => ?_) e1, Ev.step (fun k => ?_) e2, e3⟩
        · simp only [spec_clPairs.l0]
          rw [if_pos c, if_neg (by omega), if_pos c2, if_pos (by omega), wrap_id (x := d + 1) (by omega) (by omega)]
        · simp only [impl_PairsFor.l0]
          rw [if_pos c, if_neg (by omega), if_pos c2, if_pos (by omega), wrap_id (x := d + 1) (by omega) (by omega)]
      · obtain ⟨R, e1, e2, e3⟩ := ih L (d + 1) (by omega) (by omega) (by omega) (by omega)
        refine ⟨R, Ev.step (fun k => ?_) e1, Ev.step (fun k => ?_) e2, e3⟩
        · simp only [spec_clPairs.l0]
          rw [if_pos c, if_neg (by omega), if_neg c2, wrap_id (x := d + 1) (by omega) (by omega)]
        · simp only [impl_PairsFor.l0]
          rw [if_pos c, if_neg (by omega), if_neg c2, wrap_id (x := d + 1) (by omega) (by omega)]
    · refine ⟨L, Ev.step (f := fun _ => some L) (fun k => ?_) (Ev.now _), Ev.step (f := fun _ => some (L, true)) (fun k => ?_) (Ev.now _), by omega⟩
      · simp only [spec_clPairs.l0]
        rw [if_neg c]
      · simp only [impl_PairsFor.l0]
        rw [if_neg c]



end FnExactCountPairsL
open FnExactCountPairsL

theorem FnExactCountPairs : laws_FnExactCountPairs.Pure := by
  intro a _
  by_cases h : 1 ≤ a ∧ a ≤ 200
  · obtain ⟨R, ⟨K1, h1⟩, ⟨K2, h2⟩, e3⟩ := pairs_l a h 201 [] 1 (by omega) (by omega) (by omega) (by simp)
    refine ⟨K1 + K2, ?_⟩
    simp (disch := omega) [laws_FnExactCountPairs.f, spec_CountPairs.f, impl_CountPairs.f, impl_PairsFor.f, spec_clPairs.f, in_eq, within_eq, h, h1, h2]
  · refine ⟨1, ?_⟩
    simp only [laws_FnExactCountPairs.f, spec_CountPairs.f, impl_CountPairs.f, impl_PairsFor.f, in_eq, within_eq, Option.bind_some, decide_eq_true_eq]
    rw [if_neg h, if_neg h]
    simp

end Go.Proofs.Ytphkmfmjmelfjaa.Pure
