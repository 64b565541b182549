/- The plain law of FnExactIsHidden: for every argument the printed law function answers true. No condition beyond the statement's own. -/
import Derived.Test.YtheeghlfckhdeaaPFnExactIsHiddenx2
set_option linter.unusedVariables false
set_option linter.unusedSimpArgs false
namespace Go.Proofs.Ytheeghlfckhdeaa.Pure
open Go.RowKit Go.Proofs.Ytheeghlfckhdeaa.PFnExactIsHidden Go.Proofs.YtheeghlfckhdeaaW.PrintWords Go.Proofs.YtheeghlfckhdeaaW.PrintLast Go.Proofs.YtheeghlfckhdeaaW.PrintMore
namespace FnExactIsHiddenL
theorem wrap_id {x : Int} (h0 : -9223372036854775808 ≤ x) (h1 : x ≤ 9223372036854775807) : wrap64 x = x := by unfold wrap64; omega

theorem in_eq (a b c : Int) : spec_l1In.f a b c = some (decide (b ≤ a ∧ a ≤ c)) := by
  unfold spec_l1In.f
  by_cases h : a ≥ b
  · rw [if_pos h]; simp [h]
  · rw [if_neg h]; simp; omega

theorem within_eq (a b c : Int) : impl_within.f a b c = some (decide (b ≤ a ∧ a ≤ c)) := by
  unfold impl_within.f
  by_cases h : a ≥ b
  · rw [if_pos h]; simp [h]
  · rw [if_neg h]; simp; omega

theorem mulb {a b A B : Int} (ha : 0 ≤ a) (ha2 : a ≤ A) (hb : 0 ≤ b) (hb2 : b ≤ B) : 0 ≤ a * b ∧ a * b ≤ A * B :=
  ⟨Int.mul_nonneg ha hb, Int.mul_le_mul ha2 hb2 hb (by omega)⟩


theorem gcd_step {x y : Int} (hx : 0 ≤ x) (hy : 0 < y) : Int.gcd y (Int.tmod x y) = Int.gcd x y := by
  rw [Int.tmod_eq_emod_of_nonneg hx]
  obtain ⟨a, rfl⟩ := Int.eq_ofNat_of_zero_le hx
  obtain ⟨b, rfl⟩ := Int.eq_ofNat_of_zero_le (Int.le_of_lt hy)
  rw [← Int.natCast_emod, Int.gcd_natCast_natCast, Int.gcd_natCast_natCast, Nat.gcd_comm a b, Nat.gcd_rec b a, Nat.gcd_comm]

theorem tmod_bd {x y : Int} (hx : 0 ≤ x) (hy : 0 < y) : 0 ≤ Int.tmod x y ∧ Int.tmod x y < y := by
  rw [Int.tmod_eq_emod_of_nonneg hx]
  exact ⟨Int.emod_nonneg _ (by omega), Int.emod_lt_of_pos _ hy⟩


theorem low_ev (n : Nat) : ∀ (k : Nat) (p q x y : Int), 0 ≤ x → 0 ≤ y → y ≤ n → n < k → 0 < x + y →
    spec_clLow.l0 k p q x y = some (wrap64 (Int.tdiv p (Int.gcd x y : Int)), wrap64 (Int.tdiv q (Int.gcd x y : Int))) := by
  induction n with
  | zero =>
    intro k p q x y hx hy hn hk hs
    obtain ⟨k, rfl⟩ : ∃ m, k = m + 1 := ⟨k - 1, by omega⟩
    obtain rfl : y = 0 := by omega
    simp only [spec_clLow.l0]
    rw [if_neg (by omega), if_neg (by omega), Int.gcd_zero_right]
    have e : (x.natAbs : Int) = x := by omega
    rw [e]
  | succ n ih =>
    intro k p q x y hx hy hn hk hs
    obtain ⟨k, rfl⟩ : ∃ m, k = m + 1 := ⟨k - 1, by omega⟩
    simp only [spec_clLow.l0]
    by_cases h : y = 0
    · subst h
      rw [if_neg (by omega), if_neg (by omega), Int.gcd_zero_right]
      have e : (x.natAbs : Int) = x := by omega
      rw [e]
    · have hp : 0 < y := by omega
      have hb := tmod_bd hx hp
      rw [if_pos hp, if_neg h, ih k p q y (Int.tmod x y) hy hb.1 (by omega) (by omega) (by omega), gcd_step hx hp]


/-- What lowest terms are: both numbers by one common measure. -/
theorem cofactors {g x y : Int} (hg : g = (Int.gcd x y : Int)) (hx : 0 ≤ x) (hy : 0 < y) :
    ∃ p q : Int, 0 < g ∧ x = g * p ∧ y = g * q ∧ 0 ≤ p ∧ 1 ≤ q ∧ p ≤ x ∧ q ≤ y ∧ Int.tdiv x g = p ∧ Int.tdiv y g = q := by
  have hg0 : Int.gcd x y ≠ 0 := by
    intro h
    rw [Int.gcd_eq_zero_iff] at h
    omega
  have hgp : 0 < g := by omega
  obtain ⟨p, hp⟩ : g ∣ x := hg ▸ Int.gcd_dvd_left ..
  obtain ⟨q, hq⟩ : g ∣ y := hg ▸ Int.gcd_dvd_right ..
  have hp0 : 0 ≤ p := by
    by_cases h : 0 ≤ p
    · exact h
    · have := Int.mul_lt_mul_of_pos_left (show p < 0 by omega) hgp
      rw [Int.mul_zero] at this
      omega
  have hq1 : 1 ≤ q := by
    by_cases h : 0 < q
    · omega
    · have := Int.mul_nonneg (Int.le_of_lt hgp) (show 0 ≤ -q by omega)
      rw [Int.mul_neg] at this
      omega
  have hpx : p ≤ x := by
    have := Int.mul_le_mul_of_nonneg_right (show 1 ≤ g by omega) hp0
    rw [Int.one_mul] at this
    omega
  have hqy : q ≤ y := by
    have := Int.mul_le_mul_of_nonneg_right (show 1 ≤ g by omega) (show 0 ≤ q by omega)
    rw [Int.one_mul] at this
    omega
  exact ⟨p, q, hgp, hp, hq, hp0, hq1, hpx, hqy, Int.tdiv_eq_of_eq_mul_right (by omega) hp, Int.tdiv_eq_of_eq_mul_right (by omega) hq⟩

theorem low_sem (k : Nat) (x y : Int) (hx : 0 ≤ x) (hx2 : x ≤ 1000000000000000) (hy : 0 < y) (hy2 : y ≤ 1000000000000000) (hk : y < k) :
    ∃ g p q : Int, 0 < g ∧ x = g * p ∧ y = g * q ∧ 0 ≤ p ∧ 1 ≤ q ∧ p ≤ x ∧ q ≤ y ∧ g = (Int.gcd x y : Int) ∧ spec_clLow.f k x y = some (p, q) := by
  obtain ⟨p, q, h1, h2, h3, h4, h5, h6, h7, h8, h9⟩ := cofactors rfl hx hy
  refine ⟨_, p, q, h1, h2, h3, h4, h5, h6, h7, rfl, ?_⟩
  unfold spec_clLow.f
  rw [low_ev y.toNat k x y x y hx (by omega) (by omega) (by omega) (by omega), h8, h9, wrap_id (by omega) (by omega), wrap_id (by omega) (by omega)]


theorem pole_spec (a b : Int) : spec_swPole.f a b = some (decide ((1 ≤ a ∧ a ≤ 500) ∧ (1 ≤ b ∧ b ≤ 200))) := by
  simp only [spec_swPole.f, in_eq, Option.bind_some, decide_eq_true_eq]
  by_cases h : 1 ≤ a ∧ a ≤ 500 <;> simp [h]

theorem pole_impl (a b : Int) : impl_isPole.f a b = some (decide ((1 ≤ a ∧ a ≤ 500) ∧ (1 ≤ b ∧ b ≤ 200))) := by
  simp only [impl_isPole.f, impl_isPlace.f, impl_isHigh.f, within_eq, Option.bind_some, decide_eq_true_eq]
  by_cases h : 1 ≤ a ∧ a ≤ 500 <;> simp [h]


theorem both_spec (l a b : Int) : spec_swBoth.f l a b = some (decide ((2 ≤ l ∧ l ≤ 200) ∧ ((1 ≤ a ∧ a ≤ 500) ∧ (1 ≤ b ∧ b ≤ 200)) ∧ b < l)) := by
  simp only [spec_swBoth.f, spec_swLamp.f, pole_spec, in_eq, Option.bind_some, decide_eq_true_eq]
  by_cases h : 2 ≤ l ∧ l ≤ 200 <;> by_cases h2 : ((1 ≤ a ∧ a ≤ 500) ∧ (1 ≤ b ∧ b ≤ 200)) <;> simp [h, h2]

theorem both_impl (l a b : Int) : impl_isPoleOf.f l a b = some (decide ((2 ≤ l ∧ l ≤ 200) ∧ ((1 ≤ a ∧ a ≤ 500) ∧ (1 ≤ b ∧ b ≤ 200)) ∧ b < l)) := by
  simp only [impl_isPoleOf.f, impl_isLamp.f, pole_impl, within_eq, Option.bind_some, decide_eq_true_eq]
  by_cases h : 2 ≤ l ∧ l ≤ 200 <;> by_cases h2 : ((1 ≤ a ∧ a ≤ 500) ∧ (1 ≤ b ∧ b ≤ 200)) <;> simp [h, h2]


/-- The top of q stands below the line in lowest terms just where it stands below it. -/
theorem hides_iff {g p q x y c : Int} (hg : 0 < g) (hx : x = g * p) (hy : y = g * q) : c * q ≤ p ↔ c * y ≤ x := by
  rw [hx, hy]
  have e : c * (g * q) = g * (c * q) := by rw [← Int.mul_assoc, ← Int.mul_assoc, Int.mul_comm c g]
  rw [e]
  exact ⟨fun h => Int.mul_le_mul_of_nonneg_left h (by omega), fun h => Int.le_of_mul_le_mul_left h hg⟩
end FnExactIsHiddenL
open FnExactIsHiddenL

theorem FnExactIsHidden (l a b c d : Int) (_ : (Lit.int .i64 l).wf = true) (_ : (Lit.int .i64 a).wf = true) (_ : (Lit.int .i64 b).wf = true) (_ : (Lit.int .i64 c).wf = true) (_ : (Lit.int .i64 d).wf = true) : ∃ k, laws_FnExactIsHidden.f k l a b c d = some true := by
  refine ⟨2000000000, ?_⟩
  simp only [laws_FnExactIsHidden.f, laws_toPole.f, spec_IsHidden.f, impl_IsHidden.f, impl_isHidden.f, spec_swHides.f, spec_swHeight.f, both_spec, both_impl, Option.bind_some, decide_eq_true_eq]
  by_cases h : (2 ≤ l ∧ l ≤ 200) ∧ ((1 ≤ a ∧ a ≤ 500) ∧ (1 ≤ b ∧ b ≤ 200)) ∧ b < l
  · rw [if_pos h, if_pos h]
    by_cases h2 : (2 ≤ l ∧ l ≤ 200) ∧ ((1 ≤ c ∧ c ≤ 500) ∧ (1 ≤ d ∧ d ≤ 200)) ∧ d < l
    · rw [if_pos h2, if_pos h2]
      have m1 := mulb (a := l) (b := a) (A := 200) (B := 500) (by omega) (by omega) (by omega) (by omega)
      have m2 := mulb (a := l - b) (b := c) (A := 200) (B := 500) (by omega) (by omega) (by omega) (by omega)
      have m3 := mulb (a := d) (b := a) (A := 200) (B := 500) (by omega) (by omega) (by omega) (by omega)
      have m4 : 1 ≤ d * a := by
        have := Int.mul_le_mul (show 1 ≤ d by omega) (show 1 ≤ a by omega) (by omega) (by omega)
        omega
      rw [wrap_id (x := l * a) (by omega) (by omega), wrap_id (x := l - b) (by omega) (by omega), wrap_id (x := (l - b) * c) (by omega) (by omega), wrap_id (x := l * a - (l - b) * c) (by omega) (by omega), wrap_id (x := d * a) (by omega) (by omega)]
      by_cases hz : l * a - (l - b) * c ≤ 0
      · rw [if_pos hz]
        simp only [Option.bind_some]
        rw [wrap_id (x := d * 1) (by omega) (by omega)]
        have e1 : ¬ d * 1 ≤ 0 := by omega
        have e2 : ¬ d * a ≤ l * a - (l - b) * c := by omega
        by_cases hp : c > a
        · rw [if_pos hp, if_pos hp]; simp [e2]; omega
        · rw [if_neg hp, if_neg hp]; simp
      · rw [if_neg hz]
        obtain ⟨g, p, q, g0, gx, gy, p0, q0, px, qy, _, e⟩ := low_sem 2000000000 (l * a - (l - b) * c) a (by omega) (by omega) (by omega) (by omega) (by omega)
        rw [e]
        simp only [Option.bind_some]
        have m5 := mulb (a := d) (b := q) (A := 200) (B := 500) (by omega) (by omega) (by omega) (by omega)
        rw [wrap_id (x := d * q) (by omega) (by omega)]
        have hi := hides_iff (c := d) g0 gx gy
        by_cases hp : c > a
        · rw [if_pos hp, if_pos hp]
          by_cases hq : d * q ≤ p
          · have hq2 := hi.1 hq
            simp [hq, hq2]
          · have hq2 : ¬ d * a ≤ l * a - (l - b) * c := fun x => hq (hi.2 x)
            simp [hq, hq2]
        · rw [if_neg hp, if_neg hp]; simp
    · rw [if_neg h2, if_neg h2]; simp
  · rw [if_neg h, if_neg h]; simp

end Go.Proofs.Ytheeghlfckhdeaa.Pure
