/- The plain law of FnExactMainCorner: for every argument the printed law function answers true. No condition beyond the statement's own. -/
import Derived.Test.YthijdgnfoilaeaaPFnExactMainCornerx1
set_option linter.unusedVariables false
set_option linter.unusedSimpArgs false
namespace Go.Proofs.Ythijdgnfoilaeaa.Pure
open Go.RowKit Go.Proofs.Ythijdgnfoilaeaa.PFnExactMainCorner Go.Proofs.YthijdgnfoilaeaaW.PrintWords Go.Proofs.YthijdgnfoilaeaaW.PrintLast Go.Proofs.YthijdgnfoilaeaaW.PrintMore
namespace FnExactMainCornerL
theorem wrap_id {x : Int} (h0 : -9223372036854775808 ≤ x) (h1 : x ≤ 9223372036854775807) : wrap64 x = x := by unfold wrap64; omega

theorem in_eq (a b c : Int) : spec_l1In.f a b c = some (decide (b ≤ a ∧ a ≤ c)) := by
  unfold spec_l1In.f
  by_cases h : a ≥ b
  · rw [if_pos h]; simp [h]
  · rw [if_neg h]; simp; omega

theorem within_eq (a b c : Int) : impl_within.f a b c = some (decide (b ≤ a ∧ a ≤ c)) := by
  unfold impl_within.f
  by_cases h : a ≥ b
  · rw [if_pos h]; simp [h]
  · rw [if_neg h]; simp; omega

theorem mulb {a b A B : Int} (ha : 0 ≤ a) (ha2 : a ≤ A) (hb : 0 ≤ b) (hb2 : b ≤ B) : 0 ≤ a * b ∧ a * b ≤ A * B :=
  ⟨Int.mul_nonneg ha hb, Int.mul_le_mul ha2 hb2 hb (by omega)⟩


theorem gcd_step {x y : Int} (hx : 0 ≤ x) (hy : 0 < y) : Int.gcd y (Int.tmod x y) = Int.gcd x y := by
  rw [Int.tmod_eq_emod_of_nonneg hx]
  obtain ⟨a, rfl⟩ := Int.eq_ofNat_of_zero_le hx
  obtain ⟨b, rfl⟩ := Int.eq_ofNat_of_zero_le (Int.le_of_lt hy)
  rw [← Int.natCast_emod, Int.gcd_natCast_natCast, Int.gcd_natCast_natCast, Nat.gcd_comm a b, Nat.gcd_rec b a, Nat.gcd_comm]

theorem tmod_bd {x y : Int} (hx : 0 ≤ x) (hy : 0 < y) : 0 ≤ Int.tmod x y ∧ Int.tmod x y < y := by
  rw [Int.tmod_eq_emod_of_nonneg hx]
  exact ⟨Int.emod_nonneg _ (by omega), Int.emod_lt_of_pos _ hy⟩

theorem gcd_ev (n : Nat) : ∀ (k : Nat) (x y : Int), 0 ≤ x → x ≤ 1000000000000000 → 0 ≤ y → y ≤ 1000000000000000 → y ≤ n → n < k → impl_gcd.l0 k x y = some (Int.gcd x y : Int) := by
  induction n with
  | zero =>
    intro k x y hx hx2 hy hy2 hn hk
    obtain ⟨k, rfl⟩ : ∃ m, k = m + 1 := ⟨k - 1, by omega⟩
    obtain rfl : y = 0 := by omega
    simp only [impl_gcd.l0]
    rw [if_pos trivial, wrap_id (by omega) (by omega)]
    congr 1
    unfold mx
    rw [if_neg (by omega), Int.gcd_zero_right]
    omega
  | succ n ih =>
    intro k x y hx hx2 hy hy2 hn hk
    obtain ⟨k, rfl⟩ : ∃ m, k = m + 1 := ⟨k - 1, by omega⟩
    simp only [impl_gcd.l0]
    by_cases h : y = 0
    · subst h
      rw [if_pos rfl, wrap_id (by omega) (by omega)]
      congr 1
      unfold mx
      rw [if_neg (by omega), Int.gcd_zero_right]
      omega
    · have hp : 0 < y := by omega
      have hb := tmod_bd hx hp
      rw [if_neg h, ih k y (Int.tmod x y) hy hy2 hb.1 (by omega) (by omega) (by omega), gcd_step hx hp]

theorem low_ev (n : Nat) : ∀ (k : Nat) (p q x y : Int), 0 ≤ x → 0 ≤ y → y ≤ n → n < k → 0 < x + y →
    spec_clLow.l0 k p q x y = some (wrap64 (Int.tdiv p (Int.gcd x y : Int)), wrap64 (Int.tdiv q (Int.gcd x y : Int))) := by
  induction n with
  | zero =>
    intro k p q x y hx hy hn hk hs
    obtain ⟨k, rfl⟩ : ∃ m, k = m + 1 := ⟨k - 1, by omega⟩
    obtain rfl : y = 0 := by omega
    simp only [spec_clLow.l0]
    rw [if_neg (by omega), if_neg (by omega), Int.gcd_zero_right]
    have e : (x.natAbs : Int) = x := by omega
    rw [e]
  | succ n ih =>
    intro k p q x y hx hy hn hk hs
    obtain ⟨k, rfl⟩ : ∃ m, k = m + 1 := ⟨k - 1, by omega⟩
    simp only [spec_clLow.l0]
    by_cases h : y = 0
    · subst h
      rw [if_neg (by omega), if_neg (by omega), Int.gcd_zero_right]
      have e : (x.natAbs : Int) = x := by omega
      rw [e]
    · have hp : 0 < y := by omega
      have hb := tmod_bd hx hp
      rw [if_pos hp, if_neg h, ih k p q y (Int.tmod x y) hy hb.1 (by omega) (by omega) (by omega), gcd_step hx hp]


theorem tab_spec (a b : Int) : spec_beTable.f a b = some (decide ((1 ≤ a ∧ a ≤ 60) ∧ (1 ≤ b ∧ b ≤ 60))) := by
  simp only [spec_beTable.f, in_eq, Option.bind_some, decide_eq_true_eq]
  by_cases h : 1 ≤ a ∧ a ≤ 60 <;> simp [h]

theorem tab_impl (a b : Int) : impl_IsTable.f a b = some (decide ((1 ≤ a ∧ a ≤ 60) ∧ (1 ≤ b ∧ b ≤ 60))) := by
  simp only [impl_IsTable.f, within_eq, Option.bind_some, decide_eq_true_eq]
  by_cases h : 1 ≤ a ∧ a ≤ 60 <;> simp [h]

/-- What the greatest divisor leaves of both sides, and what the least common multiple is by them. -/
theorem lcm_ev (k : Nat) (a b : Int) (ha : 1 ≤ a ∧ a ≤ 60) (hb : 1 ≤ b ∧ b ≤ 60) (hk : 100 < k) :
    ∃ p q t : Int, spec_clLow.f k a b = some (p, q) ∧ impl_lcm.f k a b = some t ∧ 1 ≤ p ∧ p ≤ 60 ∧ 1 ≤ q ∧ q ≤ 60 ∧ Int.tdiv t a = q ∧ Int.tdiv t b = p := by
  have hg0 : Int.gcd a b ≠ 0 := by
    intro h
    rw [Int.gcd_eq_zero_iff] at h
    omega
  obtain ⟨g, hg⟩ : ∃ g : Int, g = (Int.gcd a b : Int) := ⟨_, rfl⟩
  have hgp : 0 < g := by omega
  obtain ⟨p, hp⟩ : g ∣ a := hg ▸ Int.gcd_dvd_left ..
  obtain ⟨q, hq⟩ : g ∣ b := hg ▸ Int.gcd_dvd_right ..
  have hp1 : 1 ≤ p := by
    by_cases h : 0 < p
    · omega
    · have := Int.mul_nonneg (Int.le_of_lt hgp) (show 0 ≤ -p by omega)
      rw [Int.mul_neg] at this
      omega
  have hq1 : 1 ≤ q := by
    by_cases h : 0 < q
    · omega
    · have := Int.mul_nonneg (Int.le_of_lt hgp) (show 0 ≤ -q by omega)
      rw [Int.mul_neg] at this
      omega
  have hp2 : p ≤ 60 := by
    have := Int.le_of_dvd (show 0 < a by omega) (⟨g, by rw [hp, Int.mul_comm]⟩ : p ∣ a)
    omega
  have hq2 : q ≤ 60 := by
    have := Int.le_of_dvd (show 0 < b by omega) (⟨g, by rw [hq, Int.mul_comm]⟩ : q ∣ b)
    omega
  have ea : Int.tdiv a g = p := Int.tdiv_eq_of_eq_mul_right (by omega) hp
  have eb : Int.tdiv b g = q := Int.tdiv_eq_of_eq_mul_right (by omega) hq
  have m := mulb (a := p) (b := b) (A := 60) (B := 60) (by omega) (by omega) (by omega) (by omega)
  refine ⟨p, q, p * b, ?_, ?_, hp1, hp2, hq1, hq2, ?_, ?_⟩
  · unfold spec_clLow.f
    rw [low_ev 60 k a b a b (by omega) (by omega) (by omega) (by omega) (by omega), ← hg, ea, eb, wrap_id (by omega) (by omega), wrap_id (by omega) (by omega)]
  · unfold impl_lcm.f impl_gcd.f
    rw [gcd_ev 60 k a b (by omega) (by omega) (by omega) (by omega) (by omega) (by omega), ← hg]
    simp only [Option.bind_some]
    rw [if_neg (by omega), ea, wrap_id (x := p) (by omega) (by omega), wrap_id (x := p * b) (by omega) (by omega)]
  · exact Int.tdiv_eq_of_eq_mul_right (by omega) (by rw [hq, hp]; rw [Int.mul_comm p, Int.mul_assoc, Int.mul_assoc, Int.mul_comm q])
  · exact Int.tdiv_eq_of_eq_mul_right (by omega) (by rw [Int.mul_comm])



end FnExactMainCornerL
open FnExactMainCornerL

theorem FnExactMainCorner (a b : Int) (_ : (Lit.int .i64 a).wf = true) (_ : (Lit.int .i64 b).wf = true) : ∃ k, laws_FnExactMainCorner.f k a b = some true := by
  refine ⟨1000, ?_⟩
  simp only [laws_FnExactMainCorner.f, laws_toTable.f, spec_MainCorner.f, spec_beMain.f, impl_MainCorner.f, tab_spec, tab_impl, Option.bind_some, decide_eq_true_eq]
  by_cases h : (1 ≤ a ∧ a ≤ 60) ∧ (1 ≤ b ∧ b ≤ 60)
  · obtain ⟨p, q, t, e1, e2, p1, p2, q1, q2, d1, d2⟩ := lcm_ev 1000 a b h.1 h.2 (by omega)
    rw [if_pos h, if_pos h, e1, e2]
    simp only [Option.bind_some]
    rw [if_neg (by omega), if_neg (by omega), d1, d2, wrap_id (x := p) (by omega) (by omega), wrap_id (x := q) (by omega) (by omega)]
    simp
  · rw [if_neg h, if_neg h]; simp

end Go.Proofs.Ythijdgnfoilaeaa.Pure
