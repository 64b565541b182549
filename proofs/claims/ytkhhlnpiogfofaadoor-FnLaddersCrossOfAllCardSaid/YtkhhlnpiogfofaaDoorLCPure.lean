/- The plain laws of what FnLaddersCrossOfAll reaches: what each function comes to, for all arguments. No condition beyond those that each theorem names. -/
import Derived.Test.YtkhhlnpiogfofaaDoorLC6
import Derived.Test.YtkhhlnpiogfofaaDoorDec
import Derived.Test.YtkhhlnpiogfofaaDoorDig
import Derived.Test.YtkhhlnpiogfofaaDoorGiven
namespace Go.Proofs.YtkhhlnpiogfofaaDoor.LCPure
open Go.RowKit Go.Proofs.YtkhhlnpiogfofaaDoor.PFnLaddersCrossOfAll Go.Proofs.YtkhhlnpiogfofaaDoorW.PrintWords Go.Proofs.YtkhhlnpiogfofaaDoorW.PrintLast Go.Proofs.YtkhhlnpiogfofaaDoorW.PrintMore Go.Proofs.YtkhhlnpiogfofaaDoor.Given
set_option linter.unusedVariables false
set_option linter.unusedSimpArgs false

theorem wrap_id {x : Int} (h0 : -9223372036854775808 ≤ x) (h1 : x ≤ 9223372036854775807) : wrap64 x = x := by unfold wrap64; omega

theorem in_eq (a b c : Int) : spec_l1In.f a b c = some (decide (b ≤ a ∧ a ≤ c)) := by
  unfold spec_l1In.f
  by_cases h : a ≥ b
  · rw [if_pos h]; simp [h]
  · rw [if_neg h]; simp; omega

theorem within_eq (a b c : Int) : impl_within.f a b c = some (decide (b ≤ a ∧ a ≤ c)) := by
  unfold impl_within.f
  by_cases h : a ≥ b
  · rw [if_pos h]; simp [h]
  · rw [if_neg h]; simp; omega

theorem mulb {a b A B : Int} (ha : 0 ≤ a) (ha2 : a ≤ A) (hb : 0 ≤ b) (hb2 : b ≤ B) : 0 ≤ a * b ∧ a * b ≤ A * B :=
  ⟨Int.mul_nonneg ha hb, Int.mul_le_mul ha2 hb2 hb (by omega)⟩

theorem lad_spec (a b c : Int) : spec_clGood.f a b c = some (decide ((1 ≤ a ∧ a ≤ 1000) ∧ (1 ≤ b ∧ b ≤ 1000) ∧ (1 ≤ c ∧ c ≤ 1000))) := by
  simp only [spec_clGood.f, in_eq, Option.bind_some, decide_eq_true_eq]
  by_cases h : 1 ≤ a ∧ a ≤ 1000 <;> by_cases h2 : 1 ≤ b ∧ b ≤ 1000 <;> simp [h, h2]

theorem lad_impl (a b c : Int) : impl_AreLadders.f a b c = some (decide ((1 ≤ a ∧ a ≤ 1000) ∧ (1 ≤ b ∧ b ≤ 1000) ∧ (1 ≤ c ∧ c ≤ 1000))) := by
  simp only [impl_AreLadders.f, impl_isWide.f, within_eq, Option.bind_some, decide_eq_true_eq]
  by_cases h : 1 ≤ a ∧ a ≤ 1000 <;> by_cases h2 : 1 ≤ b ∧ b ≤ 1000 <;> simp [h, h2]

theorem gcd_step {x y : Int} (hx : 0 ≤ x) (hy : 0 < y) : Int.gcd y (Int.tmod x y) = Int.gcd x y := by
  rw [Int.tmod_eq_emod_of_nonneg hx]
  obtain ⟨a, rfl⟩ := Int.eq_ofNat_of_zero_le hx
  obtain ⟨b, rfl⟩ := Int.eq_ofNat_of_zero_le (Int.le_of_lt hy)
  rw [← Int.natCast_emod, Int.gcd_natCast_natCast, Int.gcd_natCast_natCast, Nat.gcd_comm a b, Nat.gcd_rec b a, Nat.gcd_comm]

theorem tmod_bd {x y : Int} (hx : 0 ≤ x) (hy : 0 < y) : 0 ≤ Int.tmod x y ∧ Int.tmod x y < y := by
  rw [Int.tmod_eq_emod_of_nonneg hx]
  exact ⟨Int.emod_nonneg _ (by omega), Int.emod_lt_of_pos _ hy⟩

theorem gcd_ev (n : Nat) : ∀ (k : Nat) (x y : Int), 0 ≤ x → x ≤ 1000000000000000 → 0 ≤ y → y ≤ 1000000000000000 → y ≤ n → n < k → impl_gcd.l0 k x y = some (Int.gcd x y : Int) := by
  induction n with
  | zero =>
    intro k x y hx hx2 hy hy2 hn hk
    obtain ⟨k, rfl⟩ : ∃ m, k = m + 1 := ⟨k - 1, by omega⟩
    obtain rfl : y = 0 := by omega
    simp only [impl_gcd.l0]
    rw [if_pos trivial, wrap_id (by omega) (by omega)]
    congr 1
    unfold mx
    rw [if_neg (by omega), Int.gcd_zero_right]
    omega
  | succ n ih =>
    intro k x y hx hx2 hy hy2 hn hk
    obtain ⟨k, rfl⟩ : ∃ m, k = m + 1 := ⟨k - 1, by omega⟩
    simp only [impl_gcd.l0]
    by_cases h : y = 0
    · subst h
      rw [if_pos rfl, wrap_id (by omega) (by omega)]
      congr 1
      unfold mx
      rw [if_neg (by omega), Int.gcd_zero_right]
      omega
    · have hp : 0 < y := by omega
      have hb := tmod_bd hx hp
      rw [if_neg h, ih k y (Int.tmod x y) hy hy2 hb.1 (by omega) (by omega) (by omega), gcd_step hx hp]

theorem low_ev (n : Nat) : ∀ (k : Nat) (p q x y : Int), 0 ≤ x → 0 ≤ y → y ≤ n → n < k → 0 < x + y →
    spec_clLow.l0 k p q x y = some (wrap64 (Int.tdiv p (Int.gcd x y : Int)), wrap64 (Int.tdiv q (Int.gcd x y : Int))) := by
  induction n with
  | zero =>
    intro k p q x y hx hy hn hk hs
    obtain ⟨k, rfl⟩ : ∃ m, k = m + 1 := ⟨k - 1, by omega⟩
    obtain rfl : y = 0 := by omega
    simp only [spec_clLow.l0]
    rw [if_neg (by omega), if_neg (by omega), Int.gcd_zero_right]
    have e : (x.natAbs : Int) = x := by omega
    rw [e]
  | succ n ih =>
    intro k p q x y hx hy hn hk hs
    obtain ⟨k, rfl⟩ : ∃ m, k = m + 1 := ⟨k - 1, by omega⟩
    simp only [spec_clLow.l0]
    by_cases h : y = 0
    · subst h
      rw [if_neg (by omega), if_neg (by omega), Int.gcd_zero_right]
      have e : (x.natAbs : Int) = x := by omega
      rw [e]
    · have hp : 0 < y := by omega
      have hb := tmod_bd hx hp
      rw [if_pos hp, if_neg h, ih k p q y (Int.tmod x y) hy hb.1 (by omega) (by omega) (by omega), gcd_step hx hp]

/-- What lowest terms are: both numbers by one common measure. -/
theorem cofactors {g x y : Int} (hg : g = (Int.gcd x y : Int)) (hx : 0 ≤ x) (hy : 0 < y) :
    ∃ p q : Int, 0 < g ∧ x = g * p ∧ y = g * q ∧ 0 ≤ p ∧ 1 ≤ q ∧ p ≤ x ∧ q ≤ y ∧ Int.tdiv x g = p ∧ Int.tdiv y g = q := by
  have hg0 : Int.gcd x y ≠ 0 := by
    intro h
    rw [Int.gcd_eq_zero_iff] at h
    omega
  have hgp : 0 < g := by omega
  obtain ⟨p, hp⟩ : g ∣ x := hg ▸ Int.gcd_dvd_left ..
  obtain ⟨q, hq⟩ : g ∣ y := hg ▸ Int.gcd_dvd_right ..
  have hp0 : 0 ≤ p := by
    by_cases h : 0 ≤ p
    · exact h
    · have := Int.mul_lt_mul_of_pos_left (show p < 0 by omega) hgp
      rw [Int.mul_zero] at this
      omega
  have hq1 : 1 ≤ q := by
    by_cases h : 0 < q
    · omega
    · have := Int.mul_nonneg (Int.le_of_lt hgp) (show 0 ≤ -q by omega)
      rw [Int.mul_neg] at this
      omega
  have hpx : p ≤ x := by
    have := Int.mul_le_mul_of_nonneg_right (show 1 ≤ g by omega) hp0
    rw [Int.one_mul] at this
    omega
  have hqy : q ≤ y := by
    have := Int.mul_le_mul_of_nonneg_right (show 1 ≤ g by omega) (show 0 ≤ q by omega)
    rw [Int.one_mul] at this
    omega
  exact ⟨p, q, hgp, hp, hq, hp0, hq1, hpx, hqy, Int.tdiv_eq_of_eq_mul_right (by omega) hp, Int.tdiv_eq_of_eq_mul_right (by omega) hq⟩

/-- A fraction's two numbers in lowest terms. -/
def nu (x y : Int) : Int := Int.tdiv x (Int.gcd x y : Int)
def de (x y : Int) : Int := Int.tdiv y (Int.gcd x y : Int)

theorem nd (x y : Int) (hx : 0 ≤ x) (hy : 0 < y) : ∃ g : Int, 0 < g ∧ x = g * nu x y ∧ y = g * de x y ∧ 0 ≤ nu x y ∧ 1 ≤ de x y ∧ nu x y ≤ x ∧ de x y ≤ y ∧ Int.gcd (nu x y) (de x y) = 1 := by
  obtain ⟨p, q, h1, h2, h3, h4, h5, h6, h7, h8, h9⟩ := cofactors rfl hx hy
  have e1 : nu x y = p := h8
  have e2 : de x y = q := h9
  rw [e1, e2]
  refine ⟨_, h1, h2, h3, h4, h5, h6, h7, ?_⟩
  have e : Int.gcd x y = Int.gcd x y * Int.gcd p q := by
    have h10 : Int.gcd ((Int.gcd x y : Int) * p) ((Int.gcd x y : Int) * q) = Int.gcd x y * Int.gcd p q := by
      rw [Int.gcd_mul_left, Int.natAbs_natCast]
    rw [← h2, ← h3] at h10
    exact h10
  have hp : 0 < Int.gcd x y := by omega
  have := Nat.eq_of_mul_eq_mul_left hp (show Int.gcd x y * Int.gcd p q = Int.gcd x y * 1 by omega)
  exact this

theorem spec_low (k : Nat) (x y : Int) (hx : 0 ≤ x) (hx2 : x ≤ 1000000000000000) (hy : 0 < y) (hy2 : y ≤ 1000000000) (hk : 2000000000 ≤ k) : spec_clLow.f k x y = some (nu x y, de x y) := by
  obtain ⟨p, q, h1, h2, h3, h4, h5, h6, h7, h8, h9⟩ := cofactors rfl hx hy
  unfold spec_clLow.f nu de
  rw [low_ev y.toNat k x y x y hx (by omega) (by omega) (by omega) (by omega), h8, h9, wrap_id (by omega) (by omega), wrap_id (by omega) (by omega)]

theorem impl_low (k : Nat) (x y : Int) (hx : 0 ≤ x) (hx2 : x ≤ 1000000000000000) (hy : 0 < y) (hy2 : y ≤ 1000000000) (hk : 2000000000 ≤ k) : impl_fraction.f k x y = some (nu x y, de x y, true) := by
  obtain ⟨p, q, h1, h2, h3, h4, h5, h6, h7, h8, h9⟩ := cofactors rfl hx hy
  unfold impl_fraction.f impl_gcd.f nu de
  rw [gcd_ev y.toNat k x y hx hx2 (by omega) (by omega) (by omega) (by omega)]
  simp only [Option.bind_some]
  rw [if_neg (by omega), h8, h9, wrap_id (by omega) (by omega), wrap_id (by omega) (by omega)]

theorem jl0 (n : Nat) : ∀ (k : Nat) (x y : Int), 0 ≤ x → 0 ≤ y → y ≤ n → n < k → Int.gcd x y = 1 → laws_jLow.l0 k x y = some true := by
  induction n with
  | zero =>
    intro k x y hx hy hn hk hg
    obtain ⟨k, rfl⟩ : ∃ m, k = m + 1 := ⟨k - 1, by omega⟩
    obtain rfl : y = 0 := by omega
    rw [Int.gcd_zero_right] at hg
    obtain rfl : x = 1 := by omega
    simp only [laws_jLow.l0]
    rw [if_neg (by omega)]
    rfl
  | succ n ih =>
    intro k x y hx hy hn hk hg
    obtain ⟨k, rfl⟩ : ∃ m, k = m + 1 := ⟨k - 1, by omega⟩
    simp only [laws_jLow.l0]
    by_cases h : y = 0
    · subst h
      rw [Int.gcd_zero_right] at hg
      obtain rfl : x = 1 := by omega
      rw [if_neg (by omega)]
      rfl
    · have hp : 0 < y := by omega
      have hb := tmod_bd hx hp
      rw [if_pos hp, if_neg h, ih k y (Int.tmod x y) hy hb.1 (by omega) (by omega) ((gcd_step hx hp).trans hg)]

theorem jlow (k : Nat) (p q : Int) (hp : 0 ≤ p) (hq : 1 ≤ q) (hq2 : q ≤ 1000000000) (hg : Int.gcd p q = 1) (hk : 2000000000 ≤ k) : laws_jLow.f k p q = some true := by
  obtain ⟨k, rfl⟩ : ∃ m, k = m + 1 := ⟨k - 1, by omega⟩
  unfold laws_jLow.f
  rw [if_neg (by omega), if_neg (by omega)]
  simp only [laws_jLow.j0]
  exact jl0 q.toNat k p q hp (by omega) (by omega) (by omega) hg

def G (a b c : Int) : Prop := (1 ≤ a ∧ a ≤ 1000) ∧ (1 ≤ b ∧ b ≤ 1000) ∧ (1 ≤ c ∧ c ≤ 1000)
instance (a b c : Int) : Decidable (G a b c) := inferInstanceAs (Decidable (_ ∧ _))
theorem are_s (a b c : Int) : spec_clGood.f a b c = some (decide (G a b c)) := lad_spec a b c
theorem are_i (a b c : Int) : impl_AreLadders.f a b c = some (decide (G a b c)) := lad_impl a b c
theorem chk (a b c : Int) : impl_checkedLadders.f a b c = some (if G a b c then (a, b, c, true) else (0, 0, 0, false)) := by
  simp only [impl_checkedLadders.f, are_i, Option.bind_some, decide_eq_true_eq]
  by_cases h : G a b c
  · rw [if_pos h, if_pos h]
  · rw [if_neg h, if_neg h]

theorem bc {b c : Int} (hb : 1 ≤ b ∧ b ≤ 1000) (hc : 1 ≤ c ∧ c ≤ 1000) : 1 ≤ b * c ∧ b * c ≤ 1000000 := by
  have m1 := mulb (a := b) (b := c) (A := 1000) (B := 1000) (by omega) (by omega) (by omega) (by omega)
  have m2 := Int.mul_pos (show 0 < b by omega) (show 0 < c by omega)
  omega

theorem crossH (k : Nat) (hk : 2000000000 ≤ k) (a b c : Int) (h : G a b c) : impl_CrossHeight.f k a b c = some (nu (b * c) (b + c), de (b * c) (b + c), true) ∧ spec_CrossHeight.f k a b c = some (nu (b * c) (b + c), de (b * c) (b + c), true) := by
  have m1 := bc h.2.1 h.2.2
  have h2 := h.2.1
  have h3 := h.2.2
  simp only [spec_CrossHeight.f, impl_CrossHeight.f, are_s, are_i, Option.bind_some, decide_eq_true_eq]
  rw [if_pos h, if_pos h, wrap_id (x := b * c) (by omega) (by omega), wrap_id (x := b + c) (by omega) (by omega), impl_low k _ _ (by omega) (by omega) (by omega) (by omega) hk, spec_low k _ _ (by omega) (by omega) (by omega) (by omega) hk]
  exact ⟨rfl, rfl⟩
theorem crossP (k : Nat) (hk : 2000000000 ≤ k) (a b c : Int) (h : G a b c) : impl_CrossPlace.f k a b c = some (nu (a * b) (b + c), de (a * b) (b + c), true) ∧ spec_CrossPlace.f k a b c = some (nu (a * b) (b + c), de (a * b) (b + c), true) := by
  have m1 := bc h.1 h.2.1
  have h2 := h.2.1
  have h3 := h.2.2
  simp only [spec_CrossPlace.f, impl_CrossPlace.f, are_s, are_i, Option.bind_some, decide_eq_true_eq]
  rw [if_pos h, if_pos h, Int.mul_comm b a, wrap_id (x := a * b) (by omega) (by omega), wrap_id (x := b + c) (by omega) (by omega), impl_low k _ _ (by omega) (by omega) (by omega) (by omega) hk, spec_low k _ _ (by omega) (by omega) (by omega) (by omega) hk]
  exact ⟨rfl, rfl⟩
theorem abc {a b c : Int} (h : G a b c) : 1 ≤ a * b * c ∧ a * b * c ≤ 1000000000 := by
  have m1 := bc h.1 h.2.1
  have h3 := h.2.2
  have m2 := mulb (a := a * b) (b := c) (A := 1000000) (B := 1000) (by omega) (by omega) (by omega) (by omega)
  have m3 := Int.mul_pos (show 0 < a * b by omega) (show 0 < c by omega)
  omega
theorem areaB (k : Nat) (hk : 2000000000 ≤ k) (a b c : Int) (h : G a b c) : impl_AreaBelow.f k a b c = some (nu (a * b * c) (2 * (b + c)), de (a * b * c) (2 * (b + c)), true) ∧ spec_AreaBelow.f k a b c = some (nu (a * b * c) (2 * (b + c)), de (a * b * c) (2 * (b + c)), true) := by
  have m1 := bc h.1 h.2.1
  have m2 := abc h
  have h2 := h.2.1
  have h3 := h.2.2
  simp only [spec_AreaBelow.f, impl_AreaBelow.f, are_s, are_i, Option.bind_some, decide_eq_true_eq]
  rw [if_pos h, if_pos h, wrap_id (x := a * b) (by omega) (by omega), wrap_id (x := a * b * c) (by omega) (by omega), wrap_id (x := b + c) (by omega) (by omega), wrap_id (x := 2 * (b + c)) (by omega) (by omega), impl_low k _ _ (by omega) (by omega) (by omega) (by omega) hk, spec_low k _ _ (by omega) (by omega) (by omega) (by omega) hk]
  exact ⟨rfl, rfl⟩
theorem between_bd {b c : Int} (hb : 1 ≤ b ∧ b ≤ 1000) (hc : 1 ≤ c ∧ c ≤ 1000) : 0 ≤ (b + c) * (b + c) - b * c ∧ (b + c) * (b + c) - b * c ≤ 4000000 := by
  have m1 := mulb (a := b) (b := c) (A := 1000) (B := 1000) (by omega) (by omega) (by omega) (by omega)
  have m2 := mulb (a := b) (b := b) (A := 1000) (B := 1000) (by omega) (by omega) (by omega) (by omega)
  have m3 := mulb (a := c) (b := c) (A := 1000) (B := 1000) (by omega) (by omega) (by omega) (by omega)
  have e : (b + c) * (b + c) = b * b + b * c + (b * c + c * c) := by rw [Int.add_mul, Int.mul_add, Int.mul_add, Int.mul_comm c b]
  omega
theorem areaW (k : Nat) (hk : 2000000000 ≤ k) (a b c : Int) (h : G a b c) : impl_AreaBetween.f k a b c = some (nu (a * ((b + c) * (b + c) - b * c)) (2 * (b + c)), de (a * ((b + c) * (b + c) - b * c)) (2 * (b + c)), true) ∧ spec_AreaBetween.f k a b c = some (nu (a * ((b + c) * (b + c) - b * c)) (2 * (b + c)), de (a * ((b + c) * (b + c) - b * c)) (2 * (b + c)), true) := by
  have m0 := between_bd h.2.1 h.2.2
  have h1 := h.1
  have h2 := h.2.1
  have h3 := h.2.2
  have m1 := bc h2 h3
  have m2 := mulb (a := b + c) (b := b + c) (A := 2000) (B := 2000) (by omega) (by omega) (by omega) (by omega)
  have m3 := mulb (a := a) (b := (b + c) * (b + c) - b * c) (A := 1000) (B := 4000000) (by omega) (by omega) m0.1 m0.2
  simp only [spec_AreaBetween.f, impl_AreaBetween.f, are_s, are_i, Option.bind_some, decide_eq_true_eq]
  rw [if_pos h, if_pos h, wrap_id (x := b + c) (by omega) (by omega), wrap_id (x := (b + c) * (b + c)) (by omega) (by omega), wrap_id (x := b * c) (by omega) (by omega), wrap_id (x := (b + c) * (b + c) - b * c) (by omega) (by omega), wrap_id (x := a * ((b + c) * (b + c) - b * c)) (by omega) (by omega), wrap_id (x := 2 * (b + c)) (by omega) (by omega), impl_low k _ _ (by omega) (by omega) (by omega) (by omega) hk, spec_low k _ _ (by omega) (by omega) (by omega) (by omega) hk]
  exact ⟨rfl, rfl⟩
theorem stick (a b c : Int) (h : G a b c) : impl_LongestStick.f a b c = some (Int.tdiv (b * c) (b + c), true) ∧ spec_LongestStick.f a b c = some (Int.tdiv (b * c) (b + c), true) := by
  have m1 := bc h.2.1 h.2.2
  have h2 := h.2.1
  have h3 := h.2.2
  have hd := Int.tdiv_eq_ediv_of_nonneg (a := b * c) (b := b + c) (by omega)
  have hd2 := Int.ediv_nonneg (a := b * c) (b := b + c) (by omega) (by omega)
  have hd3 := Int.ediv_le_self (a := b * c) (b + c) (by omega)
  simp only [spec_LongestStick.f, impl_LongestStick.f, are_s, are_i, Option.bind_some, decide_eq_true_eq]
  rw [if_pos h, wrap_id (x := b + c) (by omega) (by omega), wrap_id (x := b * c) (by omega) (by omega), if_neg (by omega), wrap_id (x := Int.tdiv (b * c) (b + c)) (by omega) (by omega)]
  exact ⟨rfl, rfl⟩
theorem mirror (a b c : Int) (h : G a b c) : impl_MirrorLadders.f a b c = some (a, c, b, true) ∧ spec_MirrorLadders.f a b c = some (a, c, b, true) := by
  have h2 : G a c b := ⟨h.1, h.2.2, h.2.1⟩
  simp only [spec_MirrorLadders.f, impl_MirrorLadders.f, chk, are_s, Option.bind_some, decide_eq_true_eq]
  rw [if_pos h, if_pos h2]
  exact ⟨rfl, rfl⟩

theorem cancel {g x y : Int} (hg : 0 < g) (h : g * x = g * y) : x = y := Int.eq_of_mul_eq_mul_left (by omega) h
theorem cancel_le {g x y : Int} (hg : 0 < g) (h : g * x ≤ g * y) : x ≤ y := Int.le_of_mul_le_mul_left h hg

theorem jis (k : Nat) (hk : 2000000000 ≤ k) (x y : Int) (hx : 0 ≤ x) (hx2 : x ≤ 1000000000000000) (hy : 0 < y) (hy2 : y ≤ 1000000000) : laws_jIs.f k (nu x y) (de x y) x y = some true := by
  obtain ⟨g, g0, e1, e2, p0, q1, px, qy, hg⟩ := nd x y hx hy
  unfold laws_jIs.f
  rw [jlow k _ _ p0 q1 (by omega) hg hk]
  simp only [Option.bind_some, if_true]
  have e : nu x y * y = x * de x y := by
    generalize nu x y = p at *
    generalize de x y = q at *
    grind
  rw [e, beq_self_eq_true]

/-- What the first part of the law says of areas and of crossings. -/
theorem low_eq {a b c : Int} (h : G a b c) : wrap64 (wrap64 (nu (a * b * c) (2 * (b + c)) * 2) * de (b * c) (b + c)) = wrap64 (wrap64 (de (a * b * c) (2 * (b + c)) * a) * nu (b * c) (b + c)) := by
  have m1 := bc h.2.1 h.2.2
  have m2 := abc h
  obtain ⟨h1, h2, h3⟩ := h
  obtain ⟨g1, g10, e1, e2, p10, q11, p1x, q1y, -⟩ := nd (a * b * c) (2 * (b + c)) (by omega) (by omega)
  obtain ⟨g, g0, e3, e4, p0, q1, px, qy, -⟩ := nd (b * c) (b + c) (by omega) (by omega)
  have m3 := mulb (a := de (a * b * c) (2 * (b + c))) (b := a) (A := 4000) (B := 1000) (by omega) (by omega) (by omega) (by omega)
  rw [wrap_id (x := nu (a * b * c) (2 * (b + c)) * 2) (by omega) (by omega), wrap_id (x := de (a * b * c) (2 * (b + c)) * a) (by omega) (by omega)]
  congr 1
  generalize nu (a * b * c) (2 * (b + c)) = lo at *
  generalize de (a * b * c) (2 * (b + c)) = y at *
  generalize nu (b * c) (b + c) = A at *
  generalize de (b * c) (b + c) = B at *
  clear m1 m2 m3 h1 h2 h3 p1x q1y px qy
  exact cancel (Int.mul_pos g10 g0) (by grind)

theorem area_eq {a b c : Int} (h : G a b c) : wrap64 (wrap64 (wrap64 (nu (a * ((b + c) * (b + c) - b * c)) (2 * (b + c)) * de (a * b * c) (2 * (b + c))) * 2) + wrap64 (wrap64 (nu (a * b * c) (2 * (b + c)) * de (a * ((b + c) * (b + c) - b * c)) (2 * (b + c))) * 2)) = wrap64 (wrap64 (wrap64 (a * (b + c)) * de (a * ((b + c) * (b + c) - b * c)) (2 * (b + c))) * de (a * b * c) (2 * (b + c))) := by
  have m0 := between_bd h.2.1 h.2.2
  have m2 := abc h
  obtain ⟨h1, h2, h3⟩ := h
  have m3 := mulb (a := a) (b := (b + c) * (b + c) - b * c) (A := 1000) (B := 4000000) (by omega) (by omega) m0.1 m0.2
  obtain ⟨g1, g10, e1, e2, p10, q11, p1x, q1y, -⟩ := nd (a * b * c) (2 * (b + c)) (by omega) (by omega)
  obtain ⟨g2, g20, e3, e4, p20, q21, p2x, q2y, -⟩ := nd (a * ((b + c) * (b + c) - b * c)) (2 * (b + c)) (by omega) (by omega)
  have m4 := mulb (a := nu (a * ((b + c) * (b + c) - b * c)) (2 * (b + c))) (b := de (a * b * c) (2 * (b + c))) (A := 4000000000) (B := 4000) (by omega) (by omega) (by omega) (by omega)
  have m5 := mulb (a := nu (a * b * c) (2 * (b + c))) (b := de (a * ((b + c) * (b + c) - b * c)) (2 * (b + c))) (A := 1000000000) (B := 4000) (by omega) (by omega) (by omega) (by omega)
  have m6 := mulb (a := a) (b := b + c) (A := 1000) (B := 2000) (by omega) (by omega) (by omega) (by omega)
  have m7 := mulb (a := a * (b + c)) (b := de (a * ((b + c) * (b + c) - b * c)) (2 * (b + c))) (A := 2000000) (B := 4000) (by omega) (by omega) (by omega) (by omega)
  generalize nu (a * b * c) (2 * (b + c)) = lo at *
  generalize de (a * b * c) (2 * (b + c)) = y at *
  generalize nu (a * ((b + c) * (b + c) - b * c)) (2 * (b + c)) = bo at *
  generalize de (a * ((b + c) * (b + c) - b * c)) (2 * (b + c)) = o at *
  rw [wrap_id (x := bo * y) (by omega) (by omega), wrap_id (x := bo * y * 2) (by omega) (by omega), wrap_id (x := lo * o) (by omega) (by omega), wrap_id (x := lo * o * 2) (by omega) (by omega), wrap_id (x := a * (b + c)) (by omega) (by omega), wrap_id (x := a * (b + c) * o) (by omega) (by omega)]
  congr 1
  clear m0 m2 m3 m4 m5 m6 m7 h1 h2 h3 p1x q1y p2x q2y p10 q11 p20 q21
  exact cancel (Int.mul_pos g10 g20) (by grind)

theorem stick_eq {b c : Int} (h2 : 1 ≤ b ∧ b ≤ 1000) (h3 : 1 ≤ c ∧ c ≤ 1000) : Int.tdiv (b * c) (b + c) = wrap64 (Int.tdiv (nu (b * c) (b + c)) (de (b * c) (b + c))) := by
  have m1 := bc h2 h3
  obtain ⟨g, g0, e3, e4, p0, q1, px, qy, -⟩ := nd (b * c) (b + c) (by omega) (by omega)
  have e : Int.tdiv (b * c) (b + c) = Int.tdiv (nu (b * c) (b + c)) (de (b * c) (b + c)) := by
    have e5 := Int.mul_tdiv_mul_of_pos (nu (b * c) (b + c)) (de (b * c) (b + c)) g0
    rw [← e3, ← e4] at e5
    exact e5
  have hd := Int.tdiv_eq_ediv_of_nonneg (a := nu (b * c) (b + c)) (b := de (b * c) (b + c)) p0
  have hd2 := Int.ediv_nonneg (a := nu (b * c) (b + c)) (b := de (b * c) (b + c)) p0 (by omega)
  have hd3 := Int.ediv_le_self (a := nu (b * c) (b + c)) (de (b * c) (b + c)) p0
  rw [e, wrap_id (by omega) (by omega)]

theorem gcd_side (a b c : Int) : Int.gcd (a * b) (b + c) = Int.gcd (a * c) (b + c) := by
  have key : ∀ x y : Int, (Int.gcd (a * x) (x + y) : Int) ∣ (Int.gcd (a * y) (x + y) : Int) := fun x y => by
    have h1 : (Int.gcd (a * x) (x + y) : Int) ∣ a * x := Int.gcd_dvd_left ..
    have h2 : (Int.gcd (a * x) (x + y) : Int) ∣ x + y := Int.gcd_dvd_right ..
    refine Int.dvd_coe_gcd ?_ h2
    have h3 := Int.dvd_sub (Int.dvd_mul_of_dvd_right (b := a) h2) h1
    have e : a * (x + y) - a * x = a * y := by grind
    rw [e] at h3
    exact h3
  have k1 := key b c
  have k2 := key c b
  rw [Int.add_comm c b] at k2
  exact Nat.dvd_antisymm (Int.natCast_dvd_natCast.1 k1) (Int.natCast_dvd_natCast.1 k2)

theorem mirror_eq {a b c : Int} (h : G a b c) : de (a * c) (c + b) = de (a * b) (b + c) ∧ wrap64 (nu (a * c) (c + b) + nu (a * b) (b + c)) = wrap64 (a * de (a * b) (b + c)) := by
  have m1 := bc h.1 h.2.1
  have m2 := bc h.1 h.2.2
  obtain ⟨h1, h2, h3⟩ := h
  rw [Int.add_comm c b]
  have ed : de (a * c) (b + c) = de (a * b) (b + c) := by
    unfold de
    rw [gcd_side]
  refine ⟨ed, ?_⟩
  obtain ⟨g1, g10, e1, e2, p10, q11, p1x, q1y, -⟩ := nd (a * c) (b + c) (by omega) (by omega)
  obtain ⟨g, g0, e3, e4, p0, q1, px, qy, -⟩ := nd (a * b) (b + c) (by omega) (by omega)
  rw [ed] at e2
  congr 1
  generalize nu (a * c) (b + c) = m at *
  generalize nu (a * b) (b + c) = X at *
  generalize de (a * b) (b + c) = Y at *
  have eg : g1 = g := Int.eq_of_mul_eq_mul_right (a := Y) (by omega) (by rw [← e2, ← e4])
  subst eg
  exact cancel g0 (by grind)

theorem low_c1 (c n : Int) (hc : 1 ≤ c) (hn : 0 < n) : nu (c * n) n = c ∧ de (c * n) n = 1 := by
  have hp := Int.mul_pos (show 0 < c by omega) hn
  obtain ⟨g, g0, e1, e2, p0, q1, -, -, hg⟩ := nd (c * n) n (by omega) hn
  generalize nu (c * n) n = p at *
  generalize de (c * n) n = q at *
  have ep : p = c * q := cancel g0 (by grind)
  have hd : q ∣ (Int.gcd p q : Int) := Int.dvd_coe_gcd (by rw [ep]; exact Int.dvd_mul_left ..) (Int.dvd_refl _)
  rw [hg] at hd
  have hle := Int.le_of_dvd (by omega) hd
  have : q = 1 := by omega
  subst this
  exact ⟨by rw [ep, Int.mul_one], rfl⟩

theorem wide_i (a : Int) : impl_isWide.f a = some (decide (1 ≤ a ∧ a ≤ 1000)) := by
  simp only [impl_isWide.f, within_eq, Option.bind_some]

theorem other_back (k : Nat) (hk : 2000000000 ≤ k) {b c : Int} (h2 : 1 ≤ b ∧ b ≤ 1000) (h3 : 1 ≤ c ∧ c ≤ 1000) (hA : nu (b * c) (b + c) ≤ 1000) (hB : de (b * c) (b + c) ≤ 1000) : impl_OtherHeight.f k b (nu (b * c) (b + c)) (de (b * c) (b + c)) = some (c, 1, true) := by
  have m1 := bc h2 h3
  obtain ⟨g, g0, e3, e4, p0, q1, px, qy, -⟩ := nd (b * c) (b + c) (by omega) (by omega)
  generalize nu (b * c) (b + c) = A at *
  generalize de (b * c) (b + c) = B at *
  have hA1 : 1 ≤ A := by
    rcases Int.lt_or_le 0 A with h | h
    · omega
    · have : A = 0 := by omega
      rw [this] at e3
      omega
  have hbb := Int.mul_pos (show 0 < b by omega) (show 0 < b by omega)
  have hn : g * (B * b - A) = b * b := by grind
  have hn0 : 0 < B * b - A := by
    rcases Int.lt_or_le 0 (B * b - A) with h | h
    · exact h
    · have := Int.mul_le_mul_of_nonneg_left h (Int.le_of_lt g0)
      omega
  have e5 : A * b = c * (B * b - A) := cancel g0 (by grind)
  have m2 := mulb (a := B) (b := b) (A := 1000) (B := 1000) (by omega) hB (by omega) h2.2
  have m3 := mulb (a := A) (b := b) (A := 1000) (B := 1000) (by omega) hA (by omega) h2.2
  simp only [impl_OtherHeight.f, wide_i, Option.bind_some, decide_eq_true_eq]
  rw [if_pos h2, if_pos ⟨hA1, hA⟩, if_pos ⟨q1, hB⟩, wrap_id (x := B * b) (by omega) (by omega), if_neg (by omega), wrap_id (x := A * b) (by omega) (by omega), wrap_id (x := B * b - A) (by omega) (by omega), impl_low k _ _ (by omega) (by omega) hn0 (by omega) hk, e5]
  obtain ⟨f1, f2⟩ := low_c1 c (B * b - A) (by omega) hn0
  rw [f1, f2]
  rfl

/-- Heights of one ladder at a place. -/
def hgt (a b c : Int) (r : Bool) (n : Int) : Int := if r = true then c * n else b * (a - n)
def top (a b c n : Int) : Int := mx (b * (a - n)) (c * n)
theorem hgt_bd {a b c n : Int} (h : G a b c) (h2 : 0 ≤ n ∧ n ≤ a) : (0 ≤ c * n ∧ c * n ≤ 1000000) ∧ (0 ≤ b * (a - n) ∧ b * (a - n) ≤ 1000000) := by
  obtain ⟨h1, h3, h4⟩ := h
  have m1 := mulb (a := c) (b := n) (A := 1000) (B := 1000) (by omega) (by omega) (by omega) (by omega)
  have m2 := mulb (a := b) (b := a - n) (A := 1000) (B := 1000) (by omega) (by omega) (by omega) (by omega)
  omega
theorem heightAt (k : Nat) (hk : 2000000000 ≤ k) (a b c n : Int) (r : Bool) (h : G a b c) (h2 : 0 ≤ n ∧ n ≤ a) : impl_HeightAt.f (k + 1) a b c r n = some (nu (hgt a b c r n) a, de (hgt a b c r n) a, true) ∧ spec_HeightAt.f (k + 1) a b c r n = some (nu (hgt a b c r n) a, de (hgt a b c r n) a, true) := by
  have m := hgt_bd h h2
  have h1 := h.1
  simp only [spec_HeightAt.f, spec_clAsked.f, spec_clAt.f, impl_HeightAt.f, impl_HeightAt.j0, impl_heightAt.f, are_s, are_i, in_eq, within_eq, Option.bind_some, decide_eq_true_eq]
  have e : (!decide (0 ≤ n ∧ n ≤ a)) = false := by simp [h2]
  rw [if_pos h, if_pos h, e]
  simp only [Option.bind_some, decide_eq_true_eq, Bool.false_eq_true, if_false]
  rw [if_pos h2, wrap_id (x := a - n) (by omega) (by omega), wrap_id (x := c * n) (by omega) (by omega), wrap_id (x := b * (a - n)) (by omega) (by omega)]
  cases r
  · simp only [Bool.false_eq_true, if_false, Option.bind_some, hgt]
    rw [impl_low k _ _ (by omega) (by omega) (by omega) (by omega) hk, spec_low (k + 1) _ _ (by omega) (by omega) (by omega) (by omega) (by omega)]
    simp
  · simp only [if_true, Option.bind_some, hgt]
    rw [impl_low k _ _ (by omega) (by omega) (by omega) (by omega) hk, spec_low (k + 1) _ _ (by omega) (by omega) (by omega) (by omega) (by omega)]
    simp
theorem highestAt (k : Nat) (hk : 2000000000 ≤ k) (a b c n : Int) (h : G a b c) (h2 : 0 ≤ n ∧ n ≤ a) : impl_HighestAt.f (k + 1) a b c n = some (nu (top a b c n) a, de (top a b c n) a, true) ∧ spec_HighestAt.f (k + 1) a b c n = some (nu (top a b c n) a, de (top a b c n) a, true) := by
  have m := hgt_bd h h2
  have h1 := h.1
  simp only [spec_HighestAt.f, spec_clAsked.f, spec_clAt.f, spec_l1Most.f, impl_HighestAt.f, impl_HighestAt.j0, impl_heightAt.f, are_s, are_i, in_eq, within_eq, Option.bind_some, decide_eq_true_eq]
  have e : (!decide (0 ≤ n ∧ n ≤ a)) = false := by simp [h2]
  rw [if_pos h, if_pos h, e]
  simp only [if_pos h2, if_true, Option.bind_some, Bool.false_eq_true, if_false]
  rw [wrap_id (x := a - n) (by omega) (by omega), wrap_id (x := c * n) (by omega) (by omega), wrap_id (x := b * (a - n)) (by omega) (by omega)]
  unfold top
  by_cases h3 : b * (a - n) > c * n
  · have em : mx (b * (a - n)) (c * n) = b * (a - n) := by unfold mx; omega
    rw [if_pos h3, em, impl_low k _ _ (by omega) (by omega) (by omega) (by omega) hk]
    simp only [Option.bind_some]
    rw [spec_low (k + 1) _ _ (by omega) (by omega) (by omega) (by omega) (by omega)]
    simp [h2]
  · have em : mx (b * (a - n)) (c * n) = c * n := by unfold mx; omega
    rw [if_neg h3, em, impl_low k _ _ (by omega) (by omega) (by omega) (by omega) hk]
    simp only [Option.bind_some]
    rw [spec_low (k + 1) _ _ (by omega) (by omega) (by omega) (by omega) (by omega)]
    simp [h2]
theorem top_hgt (a b c n : Int) (r : Bool) : top a b c n = hgt a b c r n ∨ top a b c n = hgt a b c (!r) n := by
  unfold top hgt mx
  cases r <;> simp <;> omega
theorem hgt_top (a b c n : Int) (r : Bool) : hgt a b c r n ≤ top a b c n := by
  unfold top hgt mx
  cases r <;> simp <;> omega
theorem frac_le {h M a : Int} (h0 : 0 ≤ h) (hM : h ≤ M) (hM2 : M ≤ 1000000) (ha : 1 ≤ a ∧ a ≤ 1000) : ¬ (wrap64 (nu M a * de h a) < wrap64 (nu h a * de M a)) := by
  obtain ⟨g1, g10, e1, e2, p10, q11, p1x, q1y, -⟩ := nd M a (by omega) (by omega)
  obtain ⟨g, g0, e3, e4, p0, q1, px, qy, -⟩ := nd h a (by omega) (by omega)
  have m1 := mulb (a := nu M a) (b := de h a) (A := 1000000) (B := 1000) (by omega) (by omega) (by omega) (by omega)
  have m2 := mulb (a := nu h a) (b := de M a) (A := 1000000) (B := 1000) (by omega) (by omega) (by omega) (by omega)
  rw [wrap_id (by omega) (by omega), wrap_id (by omega) (by omega)]
  have key : nu h a * de M a ≤ nu M a * de h a := by
    have hh := Int.mul_le_mul_of_nonneg_right hM (show 0 ≤ a by omega)
    clear m1 m2 hM2 p1x q1y px qy
    generalize nu M a = p at *
    generalize de M a = q at *
    generalize nu h a = p' at *
    generalize de h a = q' at *
    refine cancel_le (Int.mul_pos g10 g0) ?_
    have f1 : g1 * g * (p' * q) = h * a := by grind
    have f2 : g1 * g * (p * q') = M * a := by grind
    omega
  omega

theorem otherH (k : Nat) (hk : 2000000000 ≤ k) (a b c : Int) : ∃ (x y : Int) (q : Bool), impl_OtherHeight.f k a b c = some (x, y, q) ∧ spec_OtherHeight.f k a b c = some (x, y, q) ∧ (q = true → laws_jLow.f k x y = some true ∧ wrap64 (b * wrap64 (x + wrap64 (a * y))) = wrap64 (wrap64 (c * a) * x)) := by
  simp only [impl_OtherHeight.f, spec_OtherHeight.f, wide_i, in_eq, Option.bind_some, decide_eq_true_eq]
  by_cases ha : 1 ≤ a ∧ a ≤ 1000
  · by_cases hb : 1 ≤ b ∧ b ≤ 1000
    · by_cases hc : 1 ≤ c ∧ c ≤ 1000
      · simp only [if_pos ha, if_pos hb, if_pos hc]
        have m1 := bc ha hb
        have m2 := bc ha hc
        rw [Int.mul_comm c a, Int.mul_comm b a, wrap_id (x := a * c) (by omega) (by omega), wrap_id (x := a * b) (by omega) (by omega), wrap_id (x := a * c - b) (by omega) (by omega)]
        by_cases h : b ≥ a * c
        · rw [if_pos h, if_pos h]
          exact ⟨0, 0, false, rfl, rfl, fun h => by cases h⟩
        · rw [if_neg h, if_neg h, impl_low k _ _ (by omega) (by omega) (by omega) (by omega) hk, spec_low k _ _ (by omega) (by omega) (by omega) (by omega) hk]
          refine ⟨nu (a * b) (a * c - b), de (a * b) (a * c - b), true, rfl, rfl, fun _ => ?_⟩
          obtain ⟨g, g0, e3, e4, p0, q1, px, qy, hg⟩ := nd (a * b) (a * c - b) (by omega) (by omega)
          refine ⟨jlow k _ _ p0 q1 (by omega) hg hk, ?_⟩
          have m3 := mulb (a := a) (b := de (a * b) (a * c - b)) (A := 1000) (B := 1000000) (by omega) (by omega) (by omega) (by omega)
          generalize nu (a * b) (a * c - b) = x at *
          generalize de (a * b) (a * c - b) = y at *
          rw [wrap_id (x := a * y) (by omega) (by omega), wrap_id (x := x + a * y) (by omega) (by omega)]
          congr 1
          exact cancel g0 (by grind)
      · simp only [if_pos ha, if_pos hb, if_neg hc]
        exact ⟨0, 0, false, rfl, rfl, fun h => by cases h⟩
    · simp only [if_pos ha, if_neg hb]
      exact ⟨0, 0, false, rfl, rfl, fun h => by cases h⟩
  · simp only [if_neg ha]
    exact ⟨0, 0, false, rfl, rfl, fun h => by cases h⟩

theorem movedW (k : Nat) (hk : 2000000000 ≤ k) (a b c d : Int) : ∃ (x y z : Int) (s : Bool), impl_MoveWall.f a b c d = some (x, y, z, s) ∧ spec_MoveWall.f a b c d = some (x, y, z, s) ∧ (s = true → ∃ p q : Int, impl_CrossHeight.f k a b c = some (p, q, true) ∧ impl_CrossHeight.f k x y z = some (p, q, true) ∧ impl_MoveWall.f x y z (wrap64 (-d)) = some (a, b, c, true)) := by
  have ev : ∀ a b c d : Int, impl_MoveWall.f a b c d = if G a b c ∧ (-1000 ≤ d ∧ d ≤ 1000) ∧ G (wrap64 (a + d)) b c then some (wrap64 (a + d), b, c, true) else some (0, 0, 0, false) := fun a b c d => by
    simp only [impl_MoveWall.f, are_i, within_eq, chk, Option.bind_some, decide_eq_true_eq]
    by_cases h1 : G a b c
    · by_cases h2 : -1000 ≤ d ∧ d ≤ 1000
      · by_cases h3 : G (wrap64 (a + d)) b c
        · rw [if_pos h1, if_pos h2, if_pos h3, if_pos ⟨h1, h2, h3⟩]
        · rw [if_pos h1, if_pos h2, if_neg h3, if_neg (fun h => h3 h.2.2)]
      · rw [if_pos h1, if_neg h2, if_neg (fun h => h2 h.2.1)]
    · rw [if_neg h1, if_neg (fun h => h1 h.1)]
  have es : spec_MoveWall.f a b c d = if G a b c ∧ (-1000 ≤ d ∧ d ≤ 1000) ∧ G (wrap64 (a + d)) b c then some (wrap64 (a + d), b, c, true) else some (0, 0, 0, false) := by
    simp only [spec_MoveWall.f, are_s, in_eq, Option.bind_some, decide_eq_true_eq]
    by_cases h1 : G a b c
    · by_cases h2 : -1000 ≤ d ∧ d ≤ 1000
      · by_cases h3 : 1 ≤ wrap64 (a + d) ∧ wrap64 (a + d) ≤ 1000
        · rw [if_pos h1, if_pos h2, if_pos h3, if_pos ⟨h1, h2, h3, h1.2⟩]
        · rw [if_pos h1, if_pos h2, if_neg h3, if_neg (fun h => h3 h.2.2.1)]
      · rw [if_pos h1, if_neg h2, if_neg (fun h => h2 h.2.1)]
    · rw [if_neg h1, if_neg (fun h => h1 h.1)]
  rw [ev, es]
  by_cases h : G a b c ∧ (-1000 ≤ d ∧ d ≤ 1000) ∧ G (wrap64 (a + d)) b c
  · rw [if_pos h]
    refine ⟨_, _, _, true, rfl, rfl, fun _ => ⟨_, _, (crossH k hk a b c h.1).1, (crossH k hk _ b c h.2.2).1, ?_⟩⟩
    have h1 := h.1.1
    have h2 := h.2.1
    have e1 : wrap64 (a + d) = a + d := wrap_id (by omega) (by omega)
    have e2 : wrap64 (-d) = -d := wrap_id (by omega) (by omega)
    have e3 : wrap64 (a + d + -d) = a := by rw [wrap_id (by omega) (by omega)]; omega
    have h3 := h.2.2
    rw [e1] at h3
    rw [ev, e1, e2, e3, if_pos ⟨h3, by omega, h.1⟩]
  · rw [if_neg h]
    exact ⟨0, 0, 0, false, rfl, rfl, fun h => by cases h⟩

theorem size_one (c : UInt8) : (⟨#[c]⟩ : ByteArray).size = 1 := rfl
theorem itoa_dec (n : Nat) : (⟨(Lib.itoa (n : Int)).toArray⟩ : ByteArray) = Dec.dec n := by
  unfold Lib.itoa Dec.dec
  rw [if_neg (by omega), Int.toNat_natCast]
theorem text_ev (n : Nat) (h : n ≤ 1000) : impl_text.f (n : Int) = some (Dec.dec n) := by
  unfold impl_text.f
  rw [if_pos (by omega), itoa_dec]
theorem ltextI (x y z : Nat) (h : G x y z) : impl_LaddersText.f x y z = some (Dec.ltext x y z, true) := by
  have h0 := h
  obtain ⟨h1, h2, h3⟩ := h
  have sx := Dec.dec_le x (by omega)
  have sy := Dec.dec_le y (by omega)
  have sz := Dec.dec_le z (by omega)
  simp only [impl_LaddersText.f, are_i, Option.bind_some]
  rw [if_pos (decide_eq_true h0), text_ev x (by omega)]
  simp only [Option.bind_some]
  rw [if_pos (by omega), text_ev y (by omega)]
  simp only [Option.bind_some]
  rw [if_pos (by simp only [ByteArray.size_append, size_one]; omega), if_pos (by simp only [ByteArray.size_append, size_one]; omega), text_ev z (by omega)]
  simp only [Option.bind_some]
  rw [if_pos (by simp only [ByteArray.size_append, size_one]; omega)]
  rfl
theorem ltextS (k : Nat) (hk : 2000000000 ≤ k) (x y z : Nat) (h : G x y z) : spec_LaddersText.f k x y z = some (Dec.ltext x y z, true) := by
  have h0 := h
  obtain ⟨h1, h2, h3⟩ := h
  simp only [spec_LaddersText.f, are_s, Option.bind_some]
  rw [if_pos (decide_eq_true h0), Dec.clText_dec x y z k (by omega) (by omega) (by omega) (by omega)]
  rfl
def T (x y z : Nat) : List UInt8 := Lib.decDigits x ++ 58 :: (Lib.decDigits y ++ 47 :: Lib.decDigits z)
theorem ltext_T (x y z : Nat) : (Dec.ltext x y z).data.toList = T x y z := by
  unfold Dec.ltext Dec.dec T
  simp
theorem not_dec (c : UInt8) (h : ¬ Dig.isD c) (n : Nat) : c ∉ Lib.decDigits n := fun hc => h (Dig.dec_digits n c hc)
theorem n58 : ¬ Dig.isD 58 := fun h => absurd h.2 (by decide)
theorem n47 : ¬ Dig.isD 47 := fun h => absurd h.1 (by decide)
def bs (l : List UInt8) : ByteArray := ⟨l.toArray⟩
theorem bs_list (l : List UInt8) : (bs l).data.toList = l := by unfold bs; simp
theorem toList_eq (s : ByteArray) : s.toList = s.data.toList := ByteArray.toList_eq s
theorem size_len (s : ByteArray) : s.size = s.data.toList.length := by
  rw [Array.length_toList]; rfl
theorem num_dec (n : Nat) (h : n < 1000000) (s : ByteArray) (e : s.data.toList = Lib.decDigits n) : Num.num s = ((n : Int), true) := by
  unfold Num.num
  rw [e, Dig.atoi_dec n (by omega)]
  simp only []
  rw [Dig.itoa_dec, toList_eq, toList_eq, e]
  have : (⟨(Lib.decDigits n).toArray⟩ : ByteArray).data.toList = Lib.decDigits n := by simp
  rw [this, beq_self_eq_true]
theorem dec_len (n : Nat) (h : n ≤ 1000) : (Lib.decDigits n).length ≤ 4 := by
  rw [Lib.decDigits_length]
  exact Dec.nDigits_le n 3 (by have : (10 : Nat) ^ (3 + 1) = 10000 := by decide
                               omega)
theorem cut_ev (s : ByteArray) (c : UInt8) (a r : List UInt8) (ha : c ∉ a) (e : s.data.toList = a ++ c :: r) (hs : s.size < 4294967281) : lib_Cut.f s (⟨#[c]⟩ : ByteArray) = some (bs a, bs r, true) := by
  unfold lib_Cut.f
  rw [if_pos hs]
  have e2 : (⟨#[c]⟩ : ByteArray).data.toList = [c] := rfl
  rw [e2, e, Dig.cut_app c a r ha]
  rfl
theorem number_ev (n : Nat) (h : n ≤ 1000) : impl_number.f (bs (Lib.decDigits n)) = some ((n : Int), true) := by
  unfold impl_number.f
  have hl := dec_len n h
  have hz : (bs (Lib.decDigits n)).size = (Lib.decDigits n).length := by rw [size_len, bs_list]
  rw [if_pos (by omega), num_dec n (by omega) _ (bs_list _)]
theorem parseI (x y z : Nat) (h : G x y z) : impl_ParseLadders.f (Dec.ltext x y z) = some ((x : Int), (y : Int), (z : Int), true) := by
  have h0 := h
  obtain ⟨h1, h2, h3⟩ := h
  have lx := dec_len x (by omega)
  have ly := dec_len y (by omega)
  have lz := dec_len z (by omega)
  have hz : (Dec.ltext x y z).size ≤ 14 := by
    rw [size_len, ltext_T]
    unfold T
    simp only [List.length_append, List.length_cons]
    omega
  have hz2 : (bs (Lib.decDigits y ++ 47 :: Lib.decDigits z)).size ≤ 9 := by
    rw [size_len, bs_list]
    simp only [List.length_append, List.length_cons]
    omega
  unfold impl_ParseLadders.f
  rw [cut_ev (Dec.ltext x y z) 58 (Lib.decDigits x) (Lib.decDigits y ++ 47 :: Lib.decDigits z) (not_dec 58 n58 x) (ltext_T x y z) (by omega)]
  simp only [Option.bind_some]
  rw [cut_ev _ 47 (Lib.decDigits y) (Lib.decDigits z) (not_dec 47 n47 y) (bs_list _) (by omega)]
  simp only [Option.bind_some]
  rw [number_ev x (by omega)]
  simp only [Option.bind_some]
  rw [number_ev y (by omega)]
  simp only [Option.bind_some]
  rw [number_ev z (by omega)]
  simp only [Option.bind_some, if_true]
  rw [chk, if_pos h0]
  rfl
end Go.Proofs.YtkhhlnpiogfofaaDoor.LCPure
