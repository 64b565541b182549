/- The plain law of FnExactHighestAt: for every argument the printed law function answers true. No condition beyond the statement's own. -/
import Derived.Test.YtheeghlfckhdeaaPFnExactHighestAtx2
set_option linter.unusedVariables false
set_option linter.unusedSimpArgs false
namespace Go.Proofs.Ytheeghlfckhdeaa.Pure
open Go.RowKit Go.Proofs.Ytheeghlfckhdeaa.PFnExactHighestAt Go.Proofs.YtheeghlfckhdeaaW.PrintWords Go.Proofs.YtheeghlfckhdeaaW.PrintLast Go.Proofs.YtheeghlfckhdeaaW.PrintMore
namespace FnExactHighestAtL
theorem wrap_id {x : Int} (h0 : -9223372036854775808 ≤ x) (h1 : x ≤ 9223372036854775807) : wrap64 x = x := by unfold wrap64; omega

theorem in_eq (a b c : Int) : spec_l1In.f a b c = some (decide (b ≤ a ∧ a ≤ c)) := by
  unfold spec_l1In.f
  by_cases h : a ≥ b
  · rw [if_pos h]; simp [h]
  · rw [if_neg h]; simp; omega

theorem within_eq (a b c : Int) : impl_within.f a b c = some (decide (b ≤ a ∧ a ≤ c)) := by
  unfold impl_within.f
  by_cases h : a ≥ b
  · rw [if_pos h]; simp [h]
  · rw [if_neg h]; simp; omega

theorem mulb {a b A B : Int} (ha : 0 ≤ a) (ha2 : a ≤ A) (hb : 0 ≤ b) (hb2 : b ≤ B) : 0 ≤ a * b ∧ a * b ≤ A * B :=
  ⟨Int.mul_nonneg ha hb, Int.mul_le_mul ha2 hb2 hb (by omega)⟩


theorem gcd_step {x y : Int} (hx : 0 ≤ x) (hy : 0 < y) : Int.gcd y (Int.tmod x y) = Int.gcd x y := by
  rw [Int.tmod_eq_emod_of_nonneg hx]
  obtain ⟨a, rfl⟩ := Int.eq_ofNat_of_zero_le hx
  obtain ⟨b, rfl⟩ := Int.eq_ofNat_of_zero_le (Int.le_of_lt hy)
  rw [← Int.natCast_emod, Int.gcd_natCast_natCast, Int.gcd_natCast_natCast, Nat.gcd_comm a b, Nat.gcd_rec b a, Nat.gcd_comm]

theorem tmod_bd {x y : Int} (hx : 0 ≤ x) (hy : 0 < y) : 0 ≤ Int.tmod x y ∧ Int.tmod x y < y := by
  rw [Int.tmod_eq_emod_of_nonneg hx]
  exact ⟨Int.emod_nonneg _ (by omega), Int.emod_lt_of_pos _ hy⟩


theorem gcd_ev (n : Nat) : ∀ (k : Nat) (x y : Int), 0 ≤ x → x ≤ 1000000000000000 → 0 ≤ y → y ≤ 1000000000000000 → y ≤ n → n < k → impl_gcd.l0 k x y = some (Int.gcd x y : Int) := by
  induction n with
  | zero =>
    intro k x y hx hx2 hy hy2 hn hk
    obtain ⟨k, rfl⟩ : ∃ m, k = m + 1 := ⟨k - 1, by omega⟩
    obtain rfl : y = 0 := by omega
    simp only [impl_gcd.l0]
    rw [if_pos trivial, wrap_id (by omega) (by omega)]
    congr 1
    unfold mx
    rw [if_neg (by omega), Int.gcd_zero_right]
    omega
  | succ n ih =>
    intro k x y hx hx2 hy hy2 hn hk
    obtain ⟨k, rfl⟩ : ∃ m, k = m + 1 := ⟨k - 1, by omega⟩
    simp only [impl_gcd.l0]
    by_cases h : y = 0
    · subst h
      rw [if_pos rfl, wrap_id (by omega) (by omega)]
      congr 1
      unfold mx
      rw [if_neg (by omega), Int.gcd_zero_right]
      omega
    · have hp : 0 < y := by omega
      have hb := tmod_bd hx hp
      rw [if_neg h, ih k y (Int.tmod x y) hy hy2 hb.1 (by omega) (by omega) (by omega), gcd_step hx hp]


theorem low_ev (n : Nat) : ∀ (k : Nat) (p q x y : Int), 0 ≤ x → 0 ≤ y → y ≤ n → n < k → 0 < x + y →
    spec_clLow.l0 k p q x y = some (wrap64 (Int.tdiv p (Int.gcd x y : Int)), wrap64 (Int.tdiv q (Int.gcd x y : Int))) := by
  induction n with
  | zero =>
    intro k p q x y hx hy hn hk hs
    obtain ⟨k, rfl⟩ : ∃ m, k = m + 1 := ⟨k - 1, by omega⟩
    obtain rfl : y = 0 := by omega
    simp only [spec_clLow.l0]
    rw [if_neg (by omega), if_neg (by omega), Int.gcd_zero_right]
    have e : (x.natAbs : Int) = x := by omega
    rw [e]
  | succ n ih =>
    intro k p q x y hx hy hn hk hs
    obtain ⟨k, rfl⟩ : ∃ m, k = m + 1 := ⟨k - 1, by omega⟩
    simp only [spec_clLow.l0]
    by_cases h : y = 0
    · subst h
      rw [if_neg (by omega), if_neg (by omega), Int.gcd_zero_right]
      have e : (x.natAbs : Int) = x := by omega
      rw [e]
    · have hp : 0 < y := by omega
      have hb := tmod_bd hx hp
      rw [if_pos hp, if_neg h, ih k p q y (Int.tmod x y) hy hb.1 (by omega) (by omega) (by omega), gcd_step hx hp]


theorem frac_ev2 (k k' : Nat) (x y : Int) (hx : 0 ≤ x) (hx2 : x ≤ 1000000000000000) (hy : 0 < y) (hy2 : y ≤ 1000000000000000) (hk : y < k) (hk' : y < k') :
    ∃ a b : Int, spec_clLow.f k x y = some (a, b) ∧ impl_fraction.f k' x y = some (a, b, true) := by
  have hg : (Int.gcd x y : Int) ≠ 0 := by
    intro h
    have h2 : Int.gcd x y = 0 := by omega
    rw [Int.gcd_eq_zero_iff] at h2
    omega
  refine ⟨_, _, low_ev y.toNat k x y x y hx (by omega) (by omega) (by omega) (by omega), ?_⟩
  unfold impl_fraction.f impl_gcd.f
  rw [gcd_ev y.toNat k' x y hx hx2 (by omega) hy2 (by omega) (by omega)]
  simp only [Option.bind_some]
  rw [if_neg hg]

theorem frac_ev (k : Nat) (x y : Int) (hx : 0 ≤ x) (hx2 : x ≤ 1000000000000000) (hy : 0 < y) (hy2 : y ≤ 1000000000000000) (hk : y < k) :
    ∃ a b : Int, spec_clLow.f k x y = some (a, b) ∧ impl_fraction.f k x y = some (a, b, true) := frac_ev2 k k x y hx hx2 hy hy2 hk hk


theorem lad_spec (a b c : Int) : spec_clGood.f a b c = some (decide ((1 ≤ a ∧ a ≤ 1000) ∧ (1 ≤ b ∧ b ≤ 1000) ∧ (1 ≤ c ∧ c ≤ 1000))) := by
  simp only [spec_clGood.f, in_eq, Option.bind_some, decide_eq_true_eq]
  by_cases h : 1 ≤ a ∧ a ≤ 1000 <;> by_cases h2 : 1 ≤ b ∧ b ≤ 1000 <;> simp [h, h2]

theorem lad_impl (a b c : Int) : impl_AreLadders.f a b c = some (decide ((1 ≤ a ∧ a ≤ 1000) ∧ (1 ≤ b ∧ b ≤ 1000) ∧ (1 ≤ c ∧ c ≤ 1000))) := by
  simp only [impl_AreLadders.f, impl_isWide.f, within_eq, Option.bind_some, decide_eq_true_eq]
  by_cases h : 1 ≤ a ∧ a ≤ 1000 <;> by_cases h2 : 1 ≤ b ∧ b ≤ 1000 <;> simp [h, h2]



end FnExactHighestAtL
open FnExactHighestAtL

theorem FnExactHighestAt (a b c : Int) (n : Int) (_ : (Lit.int .i64 a).wf = true) (_ : (Lit.int .i64 b).wf = true) (_ : (Lit.int .i64 c).wf = true) (_ : (Lit.int .i64 n).wf = true) : ∃ k, laws_FnExactHighestAt.f k a b c n = some true := by
  obtain ⟨K, hK⟩ : ∃ K : Nat, 2000000000 < K := ⟨2000000001, by omega⟩
  refine ⟨K + 1, ?_⟩
  simp only [laws_FnExactHighestAt.f, laws_toLadders.f, spec_HighestAt.f, spec_clAsked.f, spec_clAt.f, spec_l1Most.f, impl_HighestAt.f, impl_HighestAt.j0, impl_heightAt.f, lad_spec, lad_impl, in_eq, within_eq, Option.bind_some, decide_eq_true_eq]
  by_cases h : (1 ≤ a ∧ a ≤ 1000) ∧ (1 ≤ b ∧ b ≤ 1000) ∧ (1 ≤ c ∧ c ≤ 1000)
  · rw [if_pos h, if_pos h]
    by_cases h2 : 0 ≤ n ∧ n ≤ a
    · have e : (!decide (0 ≤ n ∧ n ≤ a)) = false := by simp [h2]
      rw [e]
      have m1 := mulb (a := c) (b := n) (A := 1000) (B := 1000) (by omega) (by omega) (by omega) (by omega)
      have m2 := mulb (a := b) (b := a - n) (A := 1000) (B := 1000) (by omega) (by omega) (by omega) (by omega)
      simp only [if_pos h2, if_true, Option.bind_some, Bool.false_eq_true, if_false]
      rw [wrap_id (x := a - n) (by omega) (by omega), wrap_id (x := c * n) (by omega) (by omega), wrap_id (x := b * (a - n)) (by omega) (by omega)]
      by_cases h3 : b * (a - n) > c * n
      · have em : mx (b * (a - n)) (c * n) = b * (a - n) := by unfold mx; omega
        obtain ⟨p, q, e1, e2⟩ := frac_ev2 (K + 1) K (b * (a - n)) a (by omega) (by omega) (by omega) (by omega) (by omega) (by omega)
        rw [if_pos h3, em]
        simp [e1, e2, h2]
      · have em : mx (b * (a - n)) (c * n) = c * n := by unfold mx; omega
        obtain ⟨p, q, e1, e2⟩ := frac_ev2 (K + 1) K (c * n) a (by omega) (by omega) (by omega) (by omega) (by omega) (by omega)
        rw [if_neg h3, em]
        simp [e1, e2, h2]
    · have e : (!decide (0 ≤ n ∧ n ≤ a)) = true := by simp only [h2]; rfl
      rw [e]
      simp [h2]
  · rw [if_neg h, if_neg h]; simp

end Go.Proofs.Ytheeghlfckhdeaa.Pure
