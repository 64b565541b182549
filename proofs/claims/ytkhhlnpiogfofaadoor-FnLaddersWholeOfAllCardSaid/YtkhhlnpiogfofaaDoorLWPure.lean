/- Plain laws on the numbers that FnLaddersWholeOfAll reaches. No condition beyond those that each theorem names. -/
import Derived.Test.YtkhhlnpiogfofaaDoorLW2
import Derived.Test.YtkhhlnpiogfofaaDoorLW3
import Derived.Test.YtkhhlnpiogfofaaDoorLW6
import Derived.Test.YtkhhlnpiogfofaaDoorGiven
namespace Go.Proofs.YtkhhlnpiogfofaaDoor.LWPure
open Go.RowKit Go.Proofs.YtkhhlnpiogfofaaDoor.PFnLaddersWholeOfAll Go.Proofs.YtkhhlnpiogfofaaDoorW.PrintWords Go.Proofs.YtkhhlnpiogfofaaDoorW.PrintLast Go.Proofs.YtkhhlnpiogfofaaDoorW.PrintMore Go.Proofs.YtkhhlnpiogfofaaDoor.Given
set_option linter.unusedVariables false
set_option linter.unusedSimpArgs false

theorem wrap_id {x : Int} (h0 : -9223372036854775808 ≤ x) (h1 : x ≤ 9223372036854775807) : wrap64 x = x := by unfold wrap64; omega
theorem in_eq (a b c : Int) : spec_l1In.f a b c = some (decide (b ≤ a ∧ a ≤ c)) := by
  unfold spec_l1In.f
  by_cases h : a ≥ b
  · rw [if_pos h]; simp [h]
  · rw [if_neg h]; simp; omega
theorem within_eq (a b c : Int) : impl_within.f a b c = some (decide (b ≤ a ∧ a ≤ c)) := by
  unfold impl_within.f
  by_cases h : a ≥ b
  · rw [if_pos h]; simp [h]
  · rw [if_neg h]; simp; omega
theorem mulb {a b A B : Int} (ha : 0 ≤ a) (ha2 : a ≤ A) (hb : 0 ≤ b) (hb2 : b ≤ B) : 0 ≤ a * b ∧ a * b ≤ A * B :=
  ⟨Int.mul_nonneg ha hb, Int.mul_le_mul ha2 hb2 hb (by omega)⟩
theorem lad_spec (a b c : Int) : spec_clGood.f a b c = some (decide ((1 ≤ a ∧ a ≤ 1000) ∧ (1 ≤ b ∧ b ≤ 1000) ∧ (1 ≤ c ∧ c ≤ 1000))) := by
  simp only [spec_clGood.f, in_eq, Option.bind_some, decide_eq_true_eq]
  by_cases h : 1 ≤ a ∧ a ≤ 1000 <;> by_cases h2 : 1 ≤ b ∧ b ≤ 1000 <;> simp [h, h2]
theorem lad_impl (a b c : Int) : impl_AreLadders.f a b c = some (decide ((1 ≤ a ∧ a ≤ 1000) ∧ (1 ≤ b ∧ b ≤ 1000) ∧ (1 ≤ c ∧ c ≤ 1000))) := by
  simp only [impl_AreLadders.f, impl_isWide.f, within_eq, Option.bind_some, decide_eq_true_eq]
  by_cases h : 1 ≤ a ∧ a ≤ 1000 <;> by_cases h2 : 1 ≤ b ∧ b ≤ 1000 <;> simp [h, h2]
theorem gcd_step {x y : Int} (hx : 0 ≤ x) (hy : 0 < y) : Int.gcd y (Int.tmod x y) = Int.gcd x y := by
  rw [Int.tmod_eq_emod_of_nonneg hx]
  obtain ⟨a, rfl⟩ := Int.eq_ofNat_of_zero_le hx
  obtain ⟨b, rfl⟩ := Int.eq_ofNat_of_zero_le (Int.le_of_lt hy)
  rw [← Int.natCast_emod, Int.gcd_natCast_natCast, Int.gcd_natCast_natCast, Nat.gcd_comm a b, Nat.gcd_rec b a, Nat.gcd_comm]
theorem tmod_bd {x y : Int} (hx : 0 ≤ x) (hy : 0 < y) : 0 ≤ Int.tmod x y ∧ Int.tmod x y < y := by
  rw [Int.tmod_eq_emod_of_nonneg hx]
  exact ⟨Int.emod_nonneg _ (by omega), Int.emod_lt_of_pos _ hy⟩
theorem gcd_ev (n : Nat) : ∀ (k : Nat) (x y : Int), 0 ≤ x → x ≤ 1000000000000000 → 0 ≤ y → y ≤ 1000000000000000 → y ≤ n → n < k → impl_gcd.l0 k x y = some (Int.gcd x y : Int) := by
  induction n with
  | zero =>
    intro k x y hx hx2 hy hy2 hn hk
    obtain ⟨k, rfl⟩ : ∃ m, k = m + 1 := ⟨k - 1, by omega⟩
    obtain rfl : y = 0 := by omega
    simp only [impl_gcd.l0]
    rw [if_pos trivial, wrap_id (by omega) (by omega)]
    congr 1
    unfold mx
    rw [if_neg (by omega), Int.gcd_zero_right]
    omega
  | succ n ih =>
    intro k x y hx hx2 hy hy2 hn hk
    obtain ⟨k, rfl⟩ : ∃ m, k = m + 1 := ⟨k - 1, by omega⟩
    simp only [impl_gcd.l0]
    by_cases h : y = 0
    · subst h
      rw [if_pos rfl, wrap_id (by omega) (by omega)]
      congr 1
      unfold mx
      rw [if_neg (by omega), Int.gcd_zero_right]
      omega
    · have hp : 0 < y := by omega
      have hb := tmod_bd hx hp
      rw [if_neg h, ih k y (Int.tmod x y) hy hy2 hb.1 (by omega) (by omega) (by omega), gcd_step hx hp]
/-- What lowest terms are: both numbers by one common measure. -/
theorem cofactors {g x y : Int} (hg : g = (Int.gcd x y : Int)) (hx : 0 ≤ x) (hy : 0 < y) :
    ∃ p q : Int, 0 < g ∧ x = g * p ∧ y = g * q ∧ 0 ≤ p ∧ 1 ≤ q ∧ p ≤ x ∧ q ≤ y ∧ Int.tdiv x g = p ∧ Int.tdiv y g = q := by
  have hg0 : Int.gcd x y ≠ 0 := by
    intro h
    rw [Int.gcd_eq_zero_iff] at h
    omega
  have hgp : 0 < g := by omega
  obtain ⟨p, hp⟩ : g ∣ x := hg ▸ Int.gcd_dvd_left ..
  obtain ⟨q, hq⟩ : g ∣ y := hg ▸ Int.gcd_dvd_right ..
  have hp0 : 0 ≤ p := by
    by_cases h : 0 ≤ p
    · exact h
    · have := Int.mul_lt_mul_of_pos_left (show p < 0 by omega) hgp
      rw [Int.mul_zero] at this
      omega
  have hq1 : 1 ≤ q := by
    by_cases h : 0 < q
    · omega
    · have := Int.mul_nonneg (Int.le_of_lt hgp) (show 0 ≤ -q by omega)
      rw [Int.mul_neg] at this
      omega
  have hpx : p ≤ x := by
    have := Int.mul_le_mul_of_nonneg_right (show 1 ≤ g by omega) hp0
    rw [Int.one_mul] at this
    omega
  have hqy : q ≤ y := by
    have := Int.mul_le_mul_of_nonneg_right (show 1 ≤ g by omega) (show 0 ≤ q by omega)
    rw [Int.one_mul] at this
    omega
  exact ⟨p, q, hgp, hp, hq, hp0, hq1, hpx, hqy, Int.tdiv_eq_of_eq_mul_right (by omega) hp, Int.tdiv_eq_of_eq_mul_right (by omega) hq⟩
/-- A fraction's two numbers in lowest terms. -/
def nu (x y : Int) : Int := Int.tdiv x (Int.gcd x y : Int)
def de (x y : Int) : Int := Int.tdiv y (Int.gcd x y : Int)
theorem nd (x y : Int) (hx : 0 ≤ x) (hy : 0 < y) : ∃ g : Int, 0 < g ∧ x = g * nu x y ∧ y = g * de x y ∧ 0 ≤ nu x y ∧ 1 ≤ de x y ∧ nu x y ≤ x ∧ de x y ≤ y ∧ Int.gcd (nu x y) (de x y) = 1 := by
  obtain ⟨p, q, h1, h2, h3, h4, h5, h6, h7, h8, h9⟩ := cofactors rfl hx hy
  have e1 : nu x y = p := h8
  have e2 : de x y = q := h9
  rw [e1, e2]
  refine ⟨_, h1, h2, h3, h4, h5, h6, h7, ?_⟩
  have e : Int.gcd x y = Int.gcd x y * Int.gcd p q := by
    have h10 : Int.gcd ((Int.gcd x y : Int) * p) ((Int.gcd x y : Int) * q) = Int.gcd x y * Int.gcd p q := by
      rw [Int.gcd_mul_left, Int.natAbs_natCast]
    rw [← h2, ← h3] at h10
    exact h10
  have hp : 0 < Int.gcd x y := by omega
  have := Nat.eq_of_mul_eq_mul_left hp (show Int.gcd x y * Int.gcd p q = Int.gcd x y * 1 by omega)
  exact this
theorem impl_low (k : Nat) (x y : Int) (hx : 0 ≤ x) (hx2 : x ≤ 1000000000000000) (hy : 0 < y) (hy2 : y ≤ 1000000000) (hk : 2000000000 ≤ k) : impl_fraction.f k x y = some (nu x y, de x y, true) := by
  obtain ⟨p, q, h1, h2, h3, h4, h5, h6, h7, h8, h9⟩ := cofactors rfl hx hy
  unfold impl_fraction.f impl_gcd.f nu de
  rw [gcd_ev y.toNat k x y hx hx2 (by omega) (by omega) (by omega) (by omega)]
  simp only [Option.bind_some]
  rw [if_neg (by omega), h8, h9, wrap_id (by omega) (by omega), wrap_id (by omega) (by omega)]
def G (a b c : Int) : Prop := (1 ≤ a ∧ a ≤ 1000) ∧ (1 ≤ b ∧ b ≤ 1000) ∧ (1 ≤ c ∧ c ≤ 1000)
instance (a b c : Int) : Decidable (G a b c) := inferInstanceAs (Decidable (_ ∧ _))
theorem are_s (a b c : Int) : spec_clGood.f a b c = some (decide (G a b c)) := lad_spec a b c
theorem are_i (a b c : Int) : impl_AreLadders.f a b c = some (decide (G a b c)) := lad_impl a b c
theorem chk (a b c : Int) : impl_checkedLadders.f a b c = some (if G a b c then (a, b, c, true) else (0, 0, 0, false)) := by
  simp only [impl_checkedLadders.f, are_i, Option.bind_some, decide_eq_true_eq]
  by_cases h : G a b c
  · rw [if_pos h, if_pos h]
  · rw [if_neg h, if_neg h]
theorem bc {b c : Int} (hb : 1 ≤ b ∧ b ≤ 1000) (hc : 1 ≤ c ∧ c ≤ 1000) : 1 ≤ b * c ∧ b * c ≤ 1000000 := by
  have m1 := mulb (a := b) (b := c) (A := 1000) (B := 1000) (by omega) (by omega) (by omega) (by omega)
  have m2 := Int.mul_pos (show 0 < b by omega) (show 0 < c by omega)
  omega
theorem cancel {g x y : Int} (hg : 0 < g) (h : g * x = g * y) : x = y := Int.eq_of_mul_eq_mul_left (by omega) h
theorem low_c1 (c n : Int) (hc : 1 ≤ c) (hn : 0 < n) : nu (c * n) n = c ∧ de (c * n) n = 1 := by
  have hp := Int.mul_pos (show 0 < c by omega) hn
  obtain ⟨g, g0, e1, e2, p0, q1, -, -, hg⟩ := nd (c * n) n (by omega) hn
  generalize nu (c * n) n = p at *
  generalize de (c * n) n = q at *
  have ep : p = c * q := cancel g0 (by grind)
  have hd : q ∣ (Int.gcd p q : Int) := Int.dvd_coe_gcd (by rw [ep]; exact Int.dvd_mul_left ..) (Int.dvd_refl _)
  rw [hg] at hd
  have hle := Int.le_of_dvd (by omega) hd
  have : q = 1 := by omega
  subst this
  exact ⟨by rw [ep, Int.mul_one], rfl⟩
theorem sq_lt {a b : Int} (hb : 0 ≤ b) (h : a * a < b * b) : a < b := by
  by_cases h2 : a < b
  · exact h2
  · have := Int.mul_le_mul (show b ≤ a by omega) (show b ≤ a by omega) hb (by omega)
    omega

theorem mid_bd {l h : Int} (hl : 0 ≤ l) (hh : l < h) (hb : h ≤ 2147483648) : wrap64 (Int.tdiv (wrap64 (l + h)) 2) = (l + h) / 2 := by
  rw [wrap_id (x := l + h) (by omega) (by omega), Int.tdiv_eq_ediv_of_nonneg (by omega), wrap_id (by omega) (by omega)]

theorem sq_bd {m : Int} (h0 : 0 ≤ m) (h1 : m ≤ 2147483648) : 0 ≤ m * m ∧ m * m ≤ 4611686018427387904 := by
  have := mulb h0 h1 h0 h1
  omega

theorem clRoot_l (s : Int) (n : Nat) : ∀ (k : Nat) (l h : Int), 0 ≤ l → l < h → h ≤ 2147483648 → l * l ≤ s → s < h * h → h - l ≤ ((2 ^ n : Nat) : Int) → n < k →
    ∃ t, spec_clRoot.l0 k s l h = some t ∧ 0 ≤ t ∧ t * t ≤ s ∧ s < (t + 1) * (t + 1) := by
  induction n with
  | zero =>
    intro k l h h0 h1 h2 h3 h4 h5 hk
    obtain ⟨k, rfl⟩ : ∃ m, k = m + 1 := ⟨k - 1, by omega⟩
    simp only [Nat.pow_zero] at h5
    refine ⟨l, ?_, h0, h3, ?_⟩
    · simp only [spec_clRoot.l0]
      rw [wrap_id (x := h - 1) (by omega) (by omega), if_neg (by omega)]
    · have e : h = l + 1 := by omega
      rw [e] at h4; exact h4
  | succ n ih =>
    intro k l h h0 h1 h2 h3 h4 h5 hk
    obtain ⟨k, rfl⟩ : ∃ m, k = m + 1 := ⟨k - 1, by omega⟩
    rw [Nat.pow_succ] at h5
    generalize hm : 2 ^ n = m at h5 ih
    by_cases hlt : l < h - 1
    · have hb := sq_bd (m := (l + h) / 2) (by omega) (by omega)
      have em := mid_bd h0 h1 h2
      by_cases c : (l + h) / 2 * ((l + h) / 2) ≤ s
      · obtain ⟨t, ht, r⟩ := ih k ((l + h) / 2) h (by omega) (by omega) h2 c h4 (by omega) (by omega)
        refine ⟨t, ?_, r⟩
        simp only [spec_clRoot.l0]
        rw [wrap_id (x := h - 1) (by omega) (by omega), if_pos hlt, em, wrap_id (x := (l + h) / 2 * ((l + h) / 2)) (by omega) (by omega), if_pos c, ht]
      · obtain ⟨t, ht, r⟩ := ih k l ((l + h) / 2) h0 (by omega) (by omega) h3 (by omega) (by omega) (by omega)
        refine ⟨t, ?_, r⟩
        simp only [spec_clRoot.l0]
        rw [wrap_id (x := h - 1) (by omega) (by omega), if_pos hlt, em, wrap_id (x := (l + h) / 2 * ((l + h) / 2)) (by omega) (by omega), if_neg c, ht]
    · refine ⟨l, ?_, h0, h3, ?_⟩
      · simp only [spec_clRoot.l0]
        rw [wrap_id (x := h - 1) (by omega) (by omega), if_neg hlt]
      · have e : h = l + 1 := by omega
        rw [e] at h4; exact h4

theorem clRoot_ev (k : Nat) (s : Int) (h0 : 0 ≤ s) (h1 : s ≤ 1099511627776) (hk : 40 < k) : ∃ t, spec_clRoot.f k s = some t ∧ 0 ≤ t ∧ t * t ≤ s ∧ s < (t + 1) * (t + 1) :=
  clRoot_l s 31 k 0 2147483648 (by omega) (by omega) (by omega) (by omega) (by omega) (by omega) (by omega)

theorem rootOf_l1 (s : Int) (hs0 : 0 ≤ s) (n : Nat) : ∀ (k : Nat) (l h : Int), 0 ≤ l → l ≤ h → h ≤ 2147483648 → (l = 0 ∨ (l - 1) * (l - 1) < s) → s ≤ h * h → h - l < ((2 ^ n : Nat) : Int) → n < k →
    ∃ t, impl_rootOf.l1 k s l h = some (t, t * t == s) ∧ 0 ≤ t ∧ t ≤ 2147483648 ∧ s ≤ t * t ∧ (t = 0 ∨ (t - 1) * (t - 1) < s) := by
  induction n with
  | zero =>
    intro k l h h0 h1 h2 h3 h4 h5 hk
    obtain ⟨k, rfl⟩ : ∃ m, k = m + 1 := ⟨k - 1, by omega⟩
    simp only [Nat.pow_zero] at h5
    obtain rfl : h = l := by omega
    have hb := sq_bd h0 h2
    refine ⟨h, ?_, h0, h2, h4, h3⟩
    simp only [impl_rootOf.l1]
    rw [if_neg (by omega), wrap_id (x := h * h) (by omega) (by omega)]
  | succ n ih =>
    intro k l h h0 h1 h2 h3 h4 h5 hk
    obtain ⟨k, rfl⟩ : ∃ m, k = m + 1 := ⟨k - 1, by omega⟩
    rw [Nat.pow_succ] at h5
    generalize hm : 2 ^ n = m at h5 ih
    by_cases hlt : l < h
    · have hb := sq_bd (m := (l + h) / 2) (by omega) (by omega)
      have em := mid_bd h0 hlt h2
      by_cases c : (l + h) / 2 * ((l + h) / 2) < s
      · obtain ⟨t, ht, r⟩ := ih k ((l + h) / 2 + 1) h (by omega) (by omega) h2 (.inr (by rw [show (l + h) / 2 + 1 - 1 = (l + h) / 2 by omega]; exact c)) h4 (by omega) (by omega)
        refine ⟨t, ?_, r⟩
        simp only [impl_rootOf.l1]
        rw [if_pos hlt, em, wrap_id (x := (l + h) / 2 * ((l + h) / 2)) (by omega) (by omega), if_pos c, wrap_id (x := (l + h) / 2 + 1) (by omega) (by omega), ht]
      · obtain ⟨t, ht, r⟩ := ih k l ((l + h) / 2) h0 (by omega) (by omega) h3 (by omega) (by omega) (by omega)
        refine ⟨t, ?_, r⟩
        simp only [impl_rootOf.l1]
        rw [if_pos hlt, em, wrap_id (x := (l + h) / 2 * ((l + h) / 2)) (by omega) (by omega), if_neg c, ht]
    · obtain rfl : h = l := by omega
      have hb := sq_bd h0 h2
      refine ⟨h, ?_, h0, h2, h4, h3⟩
      simp only [impl_rootOf.l1]
      rw [if_neg (by omega), wrap_id (x := h * h) (by omega) (by omega)]

theorem rootOf_l0 (s : Int) (hs0 : 0 ≤ s) (hs : s ≤ 1099511627776) (n : Nat) : ∀ (k : Nat) (h : Int), 1 ≤ h → h ≤ 2097152 → s ≤ (h * ((2 ^ n : Nat) : Int)) * (h * ((2 ^ n : Nat) : Int)) → n + 30 < k →
    ∃ t, impl_rootOf.l0 k s 0 h = some (t, t * t == s) ∧ 0 ≤ t ∧ t ≤ 2147483648 ∧ s ≤ t * t ∧ (t = 0 ∨ (t - 1) * (t - 1) < s) := by
  induction n with
  | zero =>
    intro k h h1 h2 h3 hk
    obtain ⟨k, rfl⟩ : ∃ m, k = m + 1 := ⟨k - 1, by omega⟩
    simp only [Nat.pow_zero] at h3
    rw [show ((1 : Nat) : Int) = 1 from rfl, Int.mul_one] at h3
    have hb := sq_bd (m := h) (by omega) (by omega)
    simp only [impl_rootOf.l0]
    rw [wrap_id (x := h * h) (by omega) (by omega), if_neg (by omega)]
    exact rootOf_l1 s hs0 22 k 0 h (by omega) (by omega) (by omega) (.inl rfl) h3 (by omega) (by omega)
  | succ n ih =>
    intro k h h1 h2 h3 hk
    obtain ⟨k, rfl⟩ : ∃ m, k = m + 1 := ⟨k - 1, by omega⟩
    have hb := sq_bd (m := h) (by omega) (by omega)
    simp only [impl_rootOf.l0]
    rw [wrap_id (x := h * h) (by omega) (by omega)]
    by_cases c : h * h < s
    · have hle : h < 1048577 := sq_lt (by omega) (by omega)
      rw [if_pos c, wrap_id (x := h * 2) (by omega) (by omega)]
      refine ih k (h * 2) (by omega) (by omega) ?_ (by omega)
      have e : h * ((2 ^ (n + 1) : Nat) : Int) = h * 2 * ((2 ^ n : Nat) : Int) := by
        rw [Nat.pow_succ, Int.natCast_mul, Int.mul_assoc]
        congr 1
        exact Int.mul_comm _ _
      rw [← e]; exact h3
    · rw [if_neg c]
      exact rootOf_l1 s hs0 22 k 0 h (by omega) (by omega) (by omega) (.inl rfl) (by omega) (by omega) (by omega)

theorem rootOf_ev (k : Nat) (s : Int) (h0 : 0 ≤ s) (h1 : s ≤ 1099511627776) (hk : 60 < k) :
    ∃ t, impl_rootOf.f k s = some (t, t * t == s) ∧ 0 ≤ t ∧ t ≤ 2147483648 ∧ s ≤ t * t ∧ (t = 0 ∨ (t - 1) * (t - 1) < s) :=
  rootOf_l0 s h0 h1 20 k 1 (by omega) (by omega) (by simp; omega) (by omega)

/-- Both roots tell alike whether a number is a square, and which root it has. -/
theorem roots (k : Nat) (s : Int) (h0 : 0 ≤ s) (h1 : s ≤ 1099511627776) (hk : 60 < k) :
    ∃ t r : Int, spec_clRoot.f k s = some t ∧ impl_rootOf.f k s = some (r, t * t == s) ∧ (t * t = s → r = t) ∧ 0 ≤ t ∧ t * t ≤ s ∧ s < (t + 1) * (t + 1) := by
  obtain ⟨t, e1, t0, t1, t2⟩ := clRoot_ev k s h0 h1 (by omega)
  obtain ⟨r, e2, r0, r1, r2, r3⟩ := rootOf_ev k s h0 h1 hk
  have key1 : t * t = s → r = t := by
    intro e
    have a : t < r + 1 := sq_lt (by omega) (by rw [e, Int.add_mul, Int.mul_add]; omega)
    rcases r3 with rfl | r3
    · omega
    · have b : r - 1 < t := sq_lt t0 (by omega)
      omega
  have key2 : r * r = s → t * t = s := by
    intro e
    have a : t < r + 1 := sq_lt (by omega) (by rw [Int.add_mul, Int.mul_add]; omega)
    have b : r < t + 1 := sq_lt (by omega) (by omega)
    have : r = t := by omega
    rw [← this]; exact e
  refine ⟨t, r, e1, ?_, key1, t0, t1, t2⟩
  rw [e2]
  congr 2
  rw [Bool.eq_iff_iff, beq_iff_eq, beq_iff_eq]
  exact ⟨key2, fun e => by rw [key1 e]; exact e⟩


theorem squares_bd {a b : Int} (ha : 1 ≤ a ∧ a ≤ 1000) (hb : 1 ≤ b ∧ b ≤ 1000) : 0 ≤ a * a ∧ a * a ≤ 1000000 ∧ 0 ≤ b * b ∧ b * b ≤ 1000000 := by
  have m1 := mulb (a := a) (b := a) (A := 1000) (B := 1000) (by omega) (by omega) (by omega) (by omega)
  have m2 := mulb (a := b) (b := b) (A := 1000) (B := 1000) (by omega) (by omega) (by omega) (by omega)
  omega

/-- What both sides tell of lengths. -/
theorem lengths_ev (k : Nat) (a b c : Int) (h : (1 ≤ a ∧ a ≤ 1000) ∧ (1 ≤ b ∧ b ≤ 1000) ∧ (1 ≤ c ∧ c ≤ 1000)) (hk : 60 < k) :
    ∃ (t s : Int) (o : Bool), spec_clLengths.f k a b c = some (t, s, o) ∧ impl_LengthsOf.f k a b c = some (if o = true then (t, s, true) else (0, 0, false)) ∧ 0 ≤ t ∧ 0 ≤ s ∧ t * t ≤ a * a + b * b ∧ a * a + b * b < (t + 1) * (t + 1) ∧ s * s ≤ a * a + c * c ∧ a * a + c * c < (s + 1) * (s + 1) ∧ o = ((t * t == a * a + b * b) && (s * s == a * a + c * c)) := by
  obtain ⟨m1, m2, m3, m4⟩ := squares_bd h.1 h.2.1
  obtain ⟨_, _, m5, m6⟩ := squares_bd h.1 h.2.2
  obtain ⟨t, r, e1, e2, e3, t0, t1, t2⟩ := roots k (a * a + b * b) (by omega) (by omega) hk
  obtain ⟨s, q, e4, e5, e6, s0, s1, s2⟩ := roots k (a * a + c * c) (by omega) (by omega) hk
  have w1 : wrap64 (t * t) = t * t := by
    have := Int.mul_nonneg t0 t0
    exact wrap_id (by omega) (by omega)
  have w2 : wrap64 (s * s) = s * s := by
    have := Int.mul_nonneg s0 s0
    exact wrap_id (by omega) (by omega)
  refine ⟨t, s, (t * t == a * a + b * b) && (s * s == a * a + c * c), ?_, ?_, t0, s0, t1, t2, s1, s2, rfl⟩
  · simp only [spec_clLengths.f, spec_clSquares.f, Option.bind_some]
    rw [wrap_id (x := a * a) (by omega) (by omega), wrap_id (x := b * b) (by omega) (by omega), wrap_id (x := c * c) (by omega) (by omega), wrap_id (x := a * a + b * b) (by omega) (by omega), wrap_id (x := a * a + c * c) (by omega) (by omega), e1, e4]
    simp only [Option.bind_some]
    rw [w1, w2]
    by_cases c1 : t * t = a * a + b * b
    · rw [if_pos c1]; simp [c1]
    · rw [if_neg c1]; simp [c1]
  · simp only [impl_LengthsOf.f, impl_SquaresOf.f, lad_impl, Option.bind_some, decide_eq_true_eq]
    rw [if_pos h]
    simp only [Option.bind_some]
    rw [wrap_id (x := a * a) (by omega) (by omega), wrap_id (x := b * b) (by omega) (by omega), wrap_id (x := c * c) (by omega) (by omega), wrap_id (x := a * a + b * b) (by omega) (by omega), wrap_id (x := a * a + c * c) (by omega) (by omega), e2, e5]
    simp only [Option.bind_some, if_true]
    by_cases c1 : t * t = a * a + b * b
    · by_cases c2 : s * s = a * a + c * c
      · rw [e3 c1, e6 c2]; simp [c1, c2]
      · simp [c1, c2]
    · simp [c1]

theorem lengths_no (k : Nat) (a b c : Int) (h : ¬ ((1 ≤ a ∧ a ≤ 1000) ∧ (1 ≤ b ∧ b ≤ 1000) ∧ (1 ≤ c ∧ c ≤ 1000))) (hk : 60 < k) : impl_LengthsOf.f k a b c = some (0, 0, false) := by
  obtain ⟨t, r, _, e2, _⟩ := roots k 0 (by omega) (by omega) hk
  simp only [impl_LengthsOf.f, impl_SquaresOf.f, lad_impl, Option.bind_some, decide_eq_true_eq]
  rw [if_neg h]
  simp [e2]


theorem de_one (x y : Int) (hx : 0 ≤ x) (hy : 0 < y) : (de x y == 1) = (Int.tmod x y == 0) := by
  obtain ⟨g, g0, e1, e2, p0, q1, px, qy, hg⟩ := nd x y hx hy
  rw [Bool.eq_iff_iff, beq_iff_eq, beq_iff_eq]
  constructor
  · intro h
    rw [h, Int.mul_one] at e2
    refine Int.tmod_eq_zero_of_dvd ⟨nu x y, ?_⟩
    rw [← e2] at e1
    exact e1
  · intro h
    have hd := Int.dvd_of_tmod_eq_zero h
    have h2 : de x y ∣ nu x y := by
      generalize nu x y = p at *
      generalize de x y = q at *
      rw [e1, e2] at hd
      exact Int.dvd_of_mul_dvd_mul_left (by omega) hd
    have h3 : de x y ∣ (Int.gcd (nu x y) (de x y) : Int) := Int.dvd_coe_gcd h2 (Int.dvd_refl _)
    rw [hg] at h3
    have := Int.le_of_dvd (by omega) h3
    omega
theorem crossHi (k : Nat) (hk : 2000000000 ≤ k) (a b c : Int) (h : G a b c) : impl_CrossHeight.f k a b c = some (nu (b * c) (b + c), de (b * c) (b + c), true) := by
  have m1 := bc h.2.1 h.2.2
  have h2 := h.2.1
  have h3 := h.2.2
  simp only [impl_CrossHeight.f, are_i, Option.bind_some, decide_eq_true_eq]
  rw [if_pos h, wrap_id (x := b * c) (by omega) (by omega), wrap_id (x := b + c) (by omega) (by omega), impl_low k _ _ (by omega) (by omega) (by omega) (by omega) hk]
  rfl
theorem crossPos {b c : Int} (hb : 1 ≤ b ∧ b ≤ 1000) (hc : 1 ≤ c ∧ c ≤ 1000) : 1 ≤ nu (b * c) (b + c) := by
  have m1 := bc hb hc
  obtain ⟨g, g0, e1, e2, p0, q1, px, qy, hg⟩ := nd (b * c) (b + c) (by omega) (by omega)
  rcases Int.lt_or_le 0 (nu (b * c) (b + c)) with h | h
  · omega
  · have : nu (b * c) (b + c) = 0 := by omega
    rw [this] at e1
    omega
theorem sqI (a b c : Int) (h : G a b c) : impl_SquaresOf.f a b c = some (a * a + b * b, a * a + c * c, true) := by
  obtain ⟨m1, m2, m3, m4⟩ := squares_bd h.1 h.2.1
  obtain ⟨_, _, m5, m6⟩ := squares_bd h.1 h.2.2
  simp only [impl_SquaresOf.f, are_i, Option.bind_some, decide_eq_true_eq]
  rw [if_pos h, wrap_id (x := a * a) (by omega) (by omega), wrap_id (x := b * b) (by omega) (by omega), wrap_id (x := c * c) (by omega) (by omega), wrap_id (x := a * a + b * b) (by omega) (by omega), wrap_id (x := a * a + c * c) (by omega) (by omega)]
theorem lt_root {a b t : Int} (ha : 1 ≤ a) (hb : 1 ≤ b) (ht : 0 ≤ t) (h : t * t = a * a + b * b) : a < t := by
  have := Int.mul_pos (show 0 < b by omega) (show 0 < b by omega)
  exact sq_lt ht (by omega)
theorem lpart (k : Nat) (hk : 2000000000 ≤ k) (a b c : Int) : ∃ (t328 t329 t334 t335 : Int) (o e t340 : Bool),
    impl_SquaresOf.f a b c = some (t328, t329, o) ∧ spec_SquaresOf.f a b c = some (t328, t329, o) ∧ impl_LengthsOf.f k a b c = some (t334, t335, e) ∧ spec_LengthsOf.f k a b c = some (t334, t335, e) ∧
    impl_IsWholeCrossing.f k a b c = some (t340, o) ∧ spec_IsWholeCrossing.f k a b c = some (t340, o) ∧ impl_AreLadders.f a b c = some o ∧ (e = true → o = true) ∧
    (o = true → ∃ t345 t346 : Int, (∀ k, 2000000000 ≤ k → impl_CrossHeight.f k a b c = some (t345, t346, true)) ∧ t328 = wrap64 (wrap64 (a * a) + wrap64 (b * b)) ∧ t329 = wrap64 (wrap64 (a * a) + wrap64 (c * c)) ∧ 1 ≤ t345 ∧ t340 = (e && (t346 == 1)) ∧
      (e = true → wrap64 (t334 * t334) = t328 ∧ wrap64 (t335 * t335) = t329 ∧ a < t334 ∧ a < t335)) := by
  by_cases h : G a b c
  · obtain ⟨t, s, e, e1, e2, t0, s0, -, -, -, -, he⟩ := lengths_ev k a b c h (by omega)
    replace he : e = true → t * t = a * a + b * b ∧ s * s = a * a + c * c := fun h => by rw [he, Bool.and_eq_true, beq_iff_eq, beq_iff_eq] at h; exact h
    obtain ⟨m1, m2, m3, m4⟩ := squares_bd h.1 h.2.1
    obtain ⟨_, _, m5, m6⟩ := squares_bd h.1 h.2.2
    have mb := bc h.2.1 h.2.2
    have h1 := h.1
    have h2 := h.2.1
    have h3 := h.2.2
    have w1 : wrap64 (a * a) = a * a := wrap_id (by omega) (by omega)
    have w2 : wrap64 (b * b) = b * b := wrap_id (by omega) (by omega)
    have w3 : wrap64 (c * c) = c * c := wrap_id (by omega) (by omega)
    have w4 : wrap64 (a * a + b * b) = a * a + b * b := wrap_id (by omega) (by omega)
    have w5 : wrap64 (a * a + c * c) = a * a + c * c := wrap_id (by omega) (by omega)
    have w6 : wrap64 (b * c) = b * c := wrap_id (by omega) (by omega)
    have w7 : wrap64 (b + c) = b + c := wrap_id (by omega) (by omega)
    have hd := de_one (b * c) (b + c) (by omega) (by omega)
    refine ⟨a * a + b * b, a * a + c * c, if e = true then t else 0, if e = true then s else 0, true, e, e && (Int.tmod (b * c) (b + c) == 0), sqI a b c h, ?_, ?_, ?_, ?_, ?_, ?_, fun _ => rfl, fun _ => ⟨_, _, fun k hk => crossHi k hk a b c h, by rw [w1, w2, w4], by rw [w1, w3, w5], crossPos h2 h3, by rw [hd], fun h => ?_⟩⟩
    · simp only [spec_SquaresOf.f, spec_clSquares.f, are_s, Option.bind_some, decide_eq_true_eq]
      rw [if_pos h, w1, w2, w3, w4, w5]
    · rw [e2]
      cases e <;> rfl
    · simp only [spec_LengthsOf.f, are_s, Option.bind_some, decide_eq_true_eq]
      rw [if_pos h, e1]
      cases e <;> simp
    · simp only [impl_IsWholeCrossing.f, impl_isWholeCrossing.f, are_i, Option.bind_some, decide_eq_true_eq]
      rw [if_pos h, e2]
      have en : b + c ≠ 0 := by omega
      cases e <;> simp [w6, w7, en, h]
    · simp only [spec_IsWholeCrossing.f, spec_clWhole.f, are_s, Option.bind_some, decide_eq_true_eq]
      rw [if_pos h, e1]
      have en : b + c ≠ 0 := by omega
      cases e <;> simp [w6, w7, en, h]
    · rw [are_i, decide_eq_true h]
    · obtain ⟨x1, x2⟩ := he h
      subst h
      simp only [if_true]
      rw [x1, x2, w4, w5]
      exact ⟨rfl, rfl, lt_root h1.1 h2.1 t0 x1, lt_root h1.1 h3.1 s0 x2⟩
  · refine ⟨0, 0, 0, 0, false, false, false, ?_, ?_, lengths_no k a b c h (by omega), ?_, ?_, ?_, ?_, fun h => h, fun h => by cases h⟩
    · simp only [impl_SquaresOf.f, are_i, Option.bind_some, decide_eq_true_eq]
      rw [if_neg h]
    · simp only [spec_SquaresOf.f, are_s, Option.bind_some, decide_eq_true_eq]
      rw [if_neg h]
    · simp only [spec_LengthsOf.f, are_s, Option.bind_some, decide_eq_true_eq]
      rw [if_neg h]
    · simp only [impl_IsWholeCrossing.f, impl_isWholeCrossing.f, are_i, Option.bind_some, decide_eq_true_eq]
      rw [if_neg h]
      simp [h]
    · simp only [spec_IsWholeCrossing.f, spec_clWhole.f, are_s, Option.bind_some, decide_eq_true_eq]
      rw [if_neg h]
    · rw [are_i, decide_eq_false h]
theorem tpart (k : Nat) (hk : 2000000000 ≤ k) (a b c n : Int) : ∃ (t380 t381 t382 : Int) (s : Bool), impl_TimesLadders.f a b c n = some (t380, t381, t382, s) ∧ spec_TimesLadders.f k a b c n = some (t380, t381, t382, s) ∧
    (s = true → ∃ p q x y v w g h : Int, impl_CrossHeight.f k a b c = some (p, q, true) ∧ impl_CrossHeight.f k t380 t381 t382 = some (x, y, true) ∧ impl_SquaresOf.f a b c = some (v, w, true) ∧ impl_SquaresOf.f t380 t381 t382 = some (g, h, true) ∧
      wrap64 (x * q) = wrap64 (wrap64 (p * y) * n) ∧ g = wrap64 (wrap64 (v * n) * n) ∧ h = wrap64 (wrap64 (w * n) * n)) := by
  have ei : impl_TimesLadders.f a b c n = if G a b c ∧ (1 ≤ n ∧ n ≤ 1000) ∧ G (wrap64 (a * n)) (wrap64 (b * n)) (wrap64 (c * n)) then some (wrap64 (a * n), wrap64 (b * n), wrap64 (c * n), true) else some (0, 0, 0, false) := by
    simp only [impl_TimesLadders.f, impl_isWide.f, are_i, within_eq, chk, Option.bind_some, decide_eq_true_eq, Int.mul_comm n]
    by_cases h1 : G a b c
    · by_cases h2 : 1 ≤ n ∧ n ≤ 1000
      · by_cases h3 : G (wrap64 (a * n)) (wrap64 (b * n)) (wrap64 (c * n))
        · simp [h1, h2, h3]
        · simp [h1, h2, h3]
      · simp [h1, h2]
    · simp [h1]
  have es : spec_TimesLadders.f k a b c n = if G a b c ∧ (1 ≤ n ∧ n ≤ 1000) ∧ G (wrap64 (a * n)) (wrap64 (b * n)) (wrap64 (c * n)) then some (wrap64 (a * n), wrap64 (b * n), wrap64 (c * n), true) else some (0, 0, 0, false) := by
    obtain ⟨k, rfl⟩ : ∃ m, k = m + 1 := ⟨k - 1, by omega⟩
    simp only [spec_TimesLadders.f, spec_TimesLadders.j0, are_s, in_eq, Option.bind_some, decide_eq_true_eq, Int.mul_comm n]
    by_cases h1 : G a b c
    · by_cases h2 : 1 ≤ n ∧ n ≤ 1000
      · by_cases h3 : G (wrap64 (a * n)) (wrap64 (b * n)) (wrap64 (c * n))
        · simp [h1, h2, h3]
        · simp [h1, h2, h3]
      · simp [h1, h2]
    · simp [h1]
  rw [ei, es]
  by_cases h : G a b c ∧ (1 ≤ n ∧ n ≤ 1000) ∧ G (wrap64 (a * n)) (wrap64 (b * n)) (wrap64 (c * n))
  · rw [if_pos h]
    obtain ⟨h1, h2, h3⟩ := h
    have n1 := mulb (a := a) (b := n) (A := 1000) (B := 1000) (by have := h1.1; omega) h1.1.2 (by omega) h2.2
    have n2 := mulb (a := b) (b := n) (A := 1000) (B := 1000) (by have := h1.2.1; omega) h1.2.1.2 (by omega) h2.2
    have n3 := mulb (a := c) (b := n) (A := 1000) (B := 1000) (by have := h1.2.2; omega) h1.2.2.2 (by omega) h2.2
    rw [wrap_id (x := a * n) (by omega) (by omega), wrap_id (x := b * n) (by omega) (by omega), wrap_id (x := c * n) (by omega) (by omega)] at h3 ⊢
    refine ⟨a * n, b * n, c * n, true, rfl, rfl, fun _ => ⟨_, _, _, _, _, _, _, _, crossHi k hk a b c h1, crossHi k hk _ _ _ h3, sqI a b c h1, sqI _ _ _ h3, ?_, ?_, ?_⟩⟩
    · have m1 := bc h1.2.1 h1.2.2
      have m2 := bc h3.2.1 h3.2.2
      have b1 := h1.2.1
      have b2 := h1.2.2
      have b3 := h3.2.1
      have b4 := h3.2.2
      obtain ⟨g, g0, e1, e2, p0, q1, px, qy, -⟩ := nd (b * c) (b + c) (by omega) (by omega)
      obtain ⟨g', g0', e1', e2', p0', q1', px', qy', -⟩ := nd (b * n * (c * n)) (b * n + c * n) (by omega) (by omega)
      generalize nu (b * c) (b + c) = p at *
      generalize de (b * c) (b + c) = q at *
      generalize nu (b * n * (c * n)) (b * n + c * n) = x at *
      generalize de (b * n * (c * n)) (b * n + c * n) = y at *
      have r1 := mulb (a := x) (b := q) (A := 1000000) (B := 2000) (by omega) (by omega) (by omega) (by omega)
      have r2 := mulb (a := p) (b := y) (A := 1000000) (B := 2000) (by omega) (by omega) (by omega) (by omega)
      have r3 := mulb (a := p * y) (b := n) (A := 2000000000) (B := 1000) (by omega) (by omega) (by omega) (by omega)
      rw [wrap_id (x := x * q) (by omega) (by omega), wrap_id (x := p * y) (by omega) (by omega), wrap_id (x := p * y * n) (by omega) (by omega)]
      exact cancel (Int.mul_pos g0 g0') (by grind)
    · obtain ⟨m1, m2, m3, m4⟩ := squares_bd h1.1 h1.2.1
      obtain ⟨m5, m6, m7, m8⟩ := squares_bd h3.1 h3.2.1
      have r1 := mulb (a := a * a + b * b) (b := n) (A := 2000000) (B := 1000) (by omega) (by omega) (by omega) (by omega)
      have r2 := mulb (a := (a * a + b * b) * n) (b := n) (A := 2000000000) (B := 1000) (by omega) (by omega) (by omega) (by omega)
      rw [wrap_id (x := (a * a + b * b) * n) (by omega) (by omega), wrap_id (x := (a * a + b * b) * n * n) (by omega) (by omega)]
      grind
    · obtain ⟨m1, m2, m3, m4⟩ := squares_bd h1.1 h1.2.2
      obtain ⟨m5, m6, m7, m8⟩ := squares_bd h3.1 h3.2.2
      have r1 := mulb (a := a * a + c * c) (b := n) (A := 2000000) (B := 1000) (by omega) (by omega) (by omega) (by omega)
      have r2 := mulb (a := (a * a + c * c) * n) (b := n) (A := 2000000000) (B := 1000) (by omega) (by omega) (by omega) (by omega)
      rw [wrap_id (x := (a * a + c * c) * n) (by omega) (by omega), wrap_id (x := (a * a + c * c) * n * n) (by omega) (by omega)]
      grind
  · rw [if_neg h]
    exact ⟨0, 0, 0, false, rfl, rfl, fun h => by cases h⟩
theorem tall (a b c n : Int) : ∃ (t0 t1 t2 : Int) (s : Bool), ∀ k, 2000000000 ≤ k → impl_TimesLadders.f a b c n = some (t0, t1, t2, s) ∧ spec_TimesLadders.f k a b c n = some (t0, t1, t2, s) ∧
    (s = true → ∃ p q x y v w g h : Int, impl_CrossHeight.f k a b c = some (p, q, true) ∧ impl_CrossHeight.f k t0 t1 t2 = some (x, y, true) ∧ impl_SquaresOf.f a b c = some (v, w, true) ∧ impl_SquaresOf.f t0 t1 t2 = some (g, h, true) ∧
      wrap64 (x * q) = wrap64 (wrap64 (p * y) * n) ∧ g = wrap64 (wrap64 (v * n) * n) ∧ h = wrap64 (wrap64 (w * n) * n)) := by
  obtain ⟨t0, t1, t2, s, e, -, -⟩ := tpart 2000000000 (Nat.le_refl _) a b c n
  refine ⟨t0, t1, t2, s, fun k hk => ?_⟩
  obtain ⟨x0, x1, x2, y, f, g, h⟩ := tpart k hk a b c n
  rw [e] at f
  simp only [Option.some.injEq, Prod.mk.injEq] at f
  obtain ⟨rfl, rfl, rfl, rfl⟩ := f
  exact ⟨e, g, h⟩
end Go.Proofs.YtkhhlnpiogfofaaDoor.LWPure
