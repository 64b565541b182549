/- The plain law of FnExactIsWholeCrossing: for every argument the printed law function answers true. No condition beyond the statement's own. -/
import Derived.Test.YtheeghlfckhdeaaPFnExactIsWholeCrossingx2
set_option linter.unusedVariables false
set_option linter.unusedSimpArgs false
namespace Go.Proofs.Ytheeghlfckhdeaa.Pure
open Go.RowKit Go.Proofs.Ytheeghlfckhdeaa.PFnExactIsWholeCrossing Go.Proofs.YtheeghlfckhdeaaW.PrintWords Go.Proofs.YtheeghlfckhdeaaW.PrintLast Go.Proofs.YtheeghlfckhdeaaW.PrintMore
namespace FnExactIsWholeCrossingL
theorem wrap_id {x : Int} (h0 : -9223372036854775808 ≤ x) (h1 : x ≤ 9223372036854775807) : wrap64 x = x := by unfold wrap64; omega

theorem in_eq (a b c : Int) : spec_l1In.f a b c = some (decide (b ≤ a ∧ a ≤ c)) := by
  unfold spec_l1In.f
  by_cases h : a ≥ b
  · rw [if_pos h]; simp [h]
  · rw [if_neg h]; simp; omega

theorem within_eq (a b c : Int) : impl_within.f a b c = some (decide (b ≤ a ∧ a ≤ c)) := by
  unfold impl_within.f
  by_cases h : a ≥ b
  · rw [if_pos h]; simp [h]
  · rw [if_neg h]; simp; omega

theorem mulb {a b A B : Int} (ha : 0 ≤ a) (ha2 : a ≤ A) (hb : 0 ≤ b) (hb2 : b ≤ B) : 0 ≤ a * b ∧ a * b ≤ A * B :=
  ⟨Int.mul_nonneg ha hb, Int.mul_le_mul ha2 hb2 hb (by omega)⟩


theorem lad_spec (a b c : Int) : spec_clGood.f a b c = some (decide ((1 ≤ a ∧ a ≤ 1000) ∧ (1 ≤ b ∧ b ≤ 1000) ∧ (1 ≤ c ∧ c ≤ 1000))) := by
  simp only [spec_clGood.f, in_eq, Option.bind_some, decide_eq_true_eq]
  by_cases h : 1 ≤ a ∧ a ≤ 1000 <;> by_cases h2 : 1 ≤ b ∧ b ≤ 1000 <;> simp [h, h2]

theorem lad_impl (a b c : Int) : impl_AreLadders.f a b c = some (decide ((1 ≤ a ∧ a ≤ 1000) ∧ (1 ≤ b ∧ b ≤ 1000) ∧ (1 ≤ c ∧ c ≤ 1000))) := by
  simp only [impl_AreLadders.f, impl_isWide.f, within_eq, Option.bind_some, decide_eq_true_eq]
  by_cases h : 1 ≤ a ∧ a ≤ 1000 <;> by_cases h2 : 1 ≤ b ∧ b ≤ 1000 <;> simp [h, h2]


theorem sq_lt {a b : Int} (hb : 0 ≤ b) (h : a * a < b * b) : a < b := by
  by_cases h2 : a < b
  · exact h2
  · have := Int.mul_le_mul (show b ≤ a by omega) (show b ≤ a by omega) hb (by omega)
    omega

theorem mid_bd {l h : Int} (hl : 0 ≤ l) (hh : l < h) (hb : h ≤ 2147483648) : wrap64 (Int.tdiv (wrap64 (l + h)) 2) = (l + h) / 2 := by
  rw [wrap_id (x := l + h) (by omega) (by omega), Int.tdiv_eq_ediv_of_nonneg (by omega), wrap_id (by omega) (by omega)]

theorem sq_bd {m : Int} (h0 : 0 ≤ m) (h1 : m ≤ 2147483648) : 0 ≤ m * m ∧ m * m ≤ 4611686018427387904 := by
  have := mulb h0 h1 h0 h1
  omega

theorem clRoot_l (s : Int) (n : Nat) : ∀ (k : Nat) (l h : Int), 0 ≤ l → l < h → h ≤ 2147483648 → l * l ≤ s → s < h * h → h - l ≤ ((2 ^ n : Nat) : Int) → n < k →
    ∃ t, spec_clRoot.l0 k s l h = some t ∧ 0 ≤ t ∧ t * t ≤ s ∧ s < (t + 1) * (t + 1) := by
  induction n with
  | zero =>
    intro k l h h0 h1 h2 h3 h4 h5 hk
    obtain ⟨k, rfl⟩ : ∃ m, k = m + 1 := ⟨k - 1, by omega⟩
    simp only [Nat.pow_zero] at h5
    refine ⟨l, ?_, h0, h3, ?_⟩
    · simp only [spec_clRoot.l0]
      rw [wrap_id (x := h - 1) (by omega) (by omega), if_neg (by omega)]
    · have e : h = l + 1 := by omega
      rw [e] at h4; exact h4
  | succ n ih =>
    intro k l h h0 h1 h2 h3 h4 h5 hk
    obtain ⟨k, rfl⟩ : ∃ m, k = m + 1 := ⟨k - 1, by omega⟩
    rw [Nat.pow_succ] at h5
    generalize hm : 2 ^ n = m at h5 ih
    by_cases hlt : l < h - 1
    · have hb := sq_bd (m := (l + h) / 2) (by omega) (by omega)
      have em := mid_bd h0 h1 h2
      by_cases c : (l + h) / 2 * ((l + h) / 2) ≤ s
      · obtain ⟨t, ht, r⟩ := ih k ((l + h) / 2) h (by omega) (by omega) h2 c h4 (by omega) (by omega)
        refine ⟨t, ?_, r⟩
        simp only [spec_clRoot.l0]
        rw [wrap_id (x := h - 1) (by omega) (by omega), if_pos hlt, em, wrap_id (x := (l + h) / 2 * ((l + h) / 2)) (by omega) (by omega), if_pos c, ht]
      · obtain ⟨t, ht, r⟩ := ih k l ((l + h) / 2) h0 (by omega) (by omega) h3 (by omega) (by omega) (by omega)
        refine ⟨t, ?_, r⟩
        simp only [spec_clRoot.l0]
        rw [wrap_id (x := h - 1) (by omega) (by omega), if_pos hlt, em, wrap_id (x := (l + h) / 2 * ((l + h) / 2)) (by omega) (by omega), if_neg c, ht]
    · refine ⟨l, ?_, h0, h3, ?_⟩
      · simp only [spec_clRoot.l0]
        rw [wrap_id (x := h - 1) (by omega) (by omega), if_neg hlt]
      · have e : h = l + 1 := by omega
        rw [e] at h4; exact h4

theorem clRoot_ev (k : Nat) (s : Int) (h0 : 0 ≤ s) (h1 : s ≤ 1099511627776) (hk : 40 < k) : ∃ t, spec_clRoot.f k s = some t ∧ 0 ≤ t ∧ t * t ≤ s ∧ s < (t + 1) * (t + 1) :=
  clRoot_l s 31 k 0 2147483648 (by omega) (by omega) (by omega) (by omega) (by omega) (by omega) (by omega)

theorem rootOf_l1 (s : Int) (hs0 : 0 ≤ s) (n : Nat) : ∀ (k : Nat) (l h : Int), 0 ≤ l → l ≤ h → h ≤ 2147483648 → (l = 0 ∨ (l - 1) * (l - 1) < s) → s ≤ h * h → h - l < ((2 ^ n : Nat) : Int) → n < k →
    ∃ t, impl_rootOf.l1 k s l h = some (t, t * t == s) ∧ 0 ≤ t ∧ t ≤ 2147483648 ∧ s ≤ t * t ∧ (t = 0 ∨ (t - 1) * (t - 1) < s) := by
  induction n with
  | zero =>
    intro k l h h0 h1 h2 h3 h4 h5 hk
    obtain ⟨k, rfl⟩ : ∃ m, k = m + 1 := ⟨k - 1, by omega⟩
    simp only [Nat.pow_zero] at h5
    obtain rfl : h = l := by omega
    have hb := sq_bd h0 h2
    refine ⟨h, ?_, h0, h2, h4, h3⟩
    simp only [impl_rootOf.l1]
    rw [if_neg (by omega), wrap_id (x := h * h) (by omega) (by omega)]
  | succ n ih =>
    intro k l h h0 h1 h2 h3 h4 h5 hk
    obtain ⟨k, rfl⟩ : ∃ m, k = m + 1 := ⟨k - 1, by omega⟩
    rw [Nat.pow_succ] at h5
    generalize hm : 2 ^ n = m at h5 ih
    by_cases hlt : l < h
    · have hb := sq_bd (m := (l + h) / 2) (by omega) (by omega)
      have em := mid_bd h0 hlt h2
      by_cases c : (l + h) / 2 * ((l + h) / 2) < s
      · obtain ⟨t, ht, r⟩ := ih k ((l + h) / 2 + 1) h (by omega) (by omega) h2 (.inr (by rw [show (l + h) / 2 + 1 - 1 = (l + h) / 2 by omega]; exact c)) h4 (by omega) (by omega)
        refine ⟨t, ?_, r⟩
        simp only [impl_rootOf.l1]
        rw [if_pos hlt, em, wrap_id (x := (l + h) / 2 * ((l + h) / 2)) (by omega) (by omega), if_pos c, wrap_id (x := (l + h) / 2 + 1) (by omega) (by omega), ht]
      · obtain ⟨t, ht, r⟩ := ih k l ((l + h) / 2) h0 (by omega) (by omega) h3 (by omega) (by omega) (by omega)
        refine ⟨t, ?_, r⟩
        simp only [impl_rootOf.l1]
        rw [if_pos hlt, em, wrap_id (x := (l + h) / 2 * ((l + h) / 2)) (by omega) (by omega), if_neg c, ht]
    · obtain rfl : h = l := by omega
      have hb := sq_bd h0 h2
      refine ⟨h, ?_, h0, h2, h4, h3⟩
      simp only [impl_rootOf.l1]
      rw [if_neg (by omega), wrap_id (x := h * h) (by omega) (by omega)]

theorem rootOf_l0 (s : Int) (hs0 : 0 ≤ s) (hs : s ≤ 1099511627776) (n : Nat) : ∀ (k : Nat) (h : Int), 1 ≤ h → h ≤ 2097152 → s ≤ (h * ((2 ^ n : Nat) : Int)) * (h * ((2 ^ n : Nat) : Int)) → n + 30 < k →
    ∃ t, impl_rootOf.l0 k s 0 h = some (t, t * t == s) ∧ 0 ≤ t ∧ t ≤ 2147483648 ∧ s ≤ t * t ∧ (t = 0 ∨ (t - 1) * (t - 1) < s) := by
  induction n with
  | zero =>
    intro k h h1 h2 h3 hk
    obtain ⟨k, rfl⟩ : ∃ m, k = m + 1 := ⟨k - 1, by omega⟩
    simp only [Nat.pow_zero] at h3
    rw [show ((1 : Nat) : Int) = 1 from rfl, Int.mul_one] at h3
    have hb := sq_bd (m := h) (by omega) (by omega)
    simp only [impl_rootOf.l0]
    rw [wrap_id (x := h * h) (by omega) (by omega), if_neg (by omega)]
    exact rootOf_l1 s hs0 22 k 0 h (by omega) (by omega) (by omega) (.inl rfl) h3 (by omega) (by omega)
  | succ n ih =>
    intro k h h1 h2 h3 hk
    obtain ⟨k, rfl⟩ : ∃ m, k = m + 1 := ⟨k - 1, by omega⟩
    have hb := sq_bd (m := h) (by omega) (by omega)
    simp only [impl_rootOf.l0]
    rw [wrap_id (x := h * h) (by omega) (by omega)]
    by_cases c : h * h < s
    · have hle : h < 1048577 := sq_lt (by omega) (by omega)
      rw [if_pos c, wrap_id (x := h * 2) (by omega) (by omega)]
      refine ih k (h * 2) (by omega) (by omega) ?_ (by omega)
      have e : h * ((2 ^ (n + 1) : Nat) : Int) = h * 2 * ((2 ^ n : Nat) : Int) := by
        rw [Nat.pow_succ, Int.natCast_mul, Int.mul_assoc]
        congr 1
        exact Int.mul_comm _ _
      rw [← e]; exact h3
    · rw [if_neg c]
      exact rootOf_l1 s hs0 22 k 0 h (by omega) (by omega) (by omega) (.inl rfl) (by omega) (by omega) (by omega)

theorem rootOf_ev (k : Nat) (s : Int) (h0 : 0 ≤ s) (h1 : s ≤ 1099511627776) (hk : 60 < k) :
    ∃ t, impl_rootOf.f k s = some (t, t * t == s) ∧ 0 ≤ t ∧ t ≤ 2147483648 ∧ s ≤ t * t ∧ (t = 0 ∨ (t - 1) * (t - 1) < s) :=
  rootOf_l0 s h0 h1 20 k 1 (by omega) (by omega) (by simp; omega) (by omega)

/-- Both roots tell alike whether a number is a square, and which root it has. -/
theorem roots (k : Nat) (s : Int) (h0 : 0 ≤ s) (h1 : s ≤ 1099511627776) (hk : 60 < k) :
    ∃ t r : Int, spec_clRoot.f k s = some t ∧ impl_rootOf.f k s = some (r, t * t == s) ∧ (t * t = s → r = t) ∧ 0 ≤ t ∧ t * t ≤ s := by
  obtain ⟨t, e1, t0, t1, t2⟩ := clRoot_ev k s h0 h1 (by omega)
  obtain ⟨r, e2, r0, r1, r2, r3⟩ := rootOf_ev k s h0 h1 hk
  have key1 : t * t = s → r = t := by
    intro e
    have a : t < r + 1 := sq_lt (by omega) (by rw [e, Int.add_mul, Int.mul_add]; omega)
    rcases r3 with rfl | r3
    · omega
    · have b : r - 1 < t := sq_lt t0 (by omega)
      omega
  have key2 : r * r = s → t * t = s := by
    intro e
    have a : t < r + 1 := sq_lt (by omega) (by rw [Int.add_mul, Int.mul_add]; omega)
    have b : r < t + 1 := sq_lt (by omega) (by omega)
    have : r = t := by omega
    rw [← this]; exact e
  refine ⟨t, r, e1, ?_, key1, t0, t1⟩
  rw [e2]
  congr 2
  rw [Bool.eq_iff_iff, beq_iff_eq, beq_iff_eq]
  exact ⟨key2, fun e => by rw [key1 e]; exact e⟩


theorem squares_bd {a b : Int} (ha : 1 ≤ a ∧ a ≤ 1000) (hb : 1 ≤ b ∧ b ≤ 1000) : 0 ≤ a * a ∧ a * a ≤ 1000000 ∧ 0 ≤ b * b ∧ b * b ≤ 1000000 := by
  have m1 := mulb (a := a) (b := a) (A := 1000) (B := 1000) (by omega) (by omega) (by omega) (by omega)
  have m2 := mulb (a := b) (b := b) (A := 1000) (B := 1000) (by omega) (by omega) (by omega) (by omega)
  omega

/-- What both sides tell of lengths. -/
theorem lengths_ev (k : Nat) (a b c : Int) (h : (1 ≤ a ∧ a ≤ 1000) ∧ (1 ≤ b ∧ b ≤ 1000) ∧ (1 ≤ c ∧ c ≤ 1000)) (hk : 60 < k) :
    ∃ (t s : Int) (o : Bool), spec_clLengths.f k a b c = some (t, s, o) ∧ impl_LengthsOf.f k a b c = some (if o = true then (t, s, true) else (0, 0, false)) := by
  obtain ⟨m1, m2, m3, m4⟩ := squares_bd h.1 h.2.1
  obtain ⟨_, _, m5, m6⟩ := squares_bd h.1 h.2.2
  obtain ⟨t, r, e1, e2, e3, t0, t1⟩ := roots k (a * a + b * b) (by omega) (by omega) hk
  obtain ⟨s, q, e4, e5, e6, s0, s1⟩ := roots k (a * a + c * c) (by omega) (by omega) hk
  have w1 : wrap64 (t * t) = t * t := by
    have := Int.mul_nonneg t0 t0
    exact wrap_id (by omega) (by omega)
  have w2 : wrap64 (s * s) = s * s := by
    have := Int.mul_nonneg s0 s0
    exact wrap_id (by omega) (by omega)
  refine ⟨t, s, (t * t == a * a + b * b) && (s * s == a * a + c * c), ?_, ?_⟩
  · simp only [spec_clLengths.f, spec_clSquares.f, Option.bind_some]
    rw [wrap_id (x := a * a) (by omega) (by omega), wrap_id (x := b * b) (by omega) (by omega), wrap_id (x := c * c) (by omega) (by omega), wrap_id (x := a * a + b * b) (by omega) (by omega), wrap_id (x := a * a + c * c) (by omega) (by omega), e1, e4]
    simp only [Option.bind_some]
    rw [w1, w2]
    by_cases c1 : t * t = a * a + b * b
    · rw [if_pos c1]; simp [c1]
    · rw [if_neg c1]; simp [c1]
  · simp only [impl_LengthsOf.f, impl_SquaresOf.f, lad_impl, Option.bind_some, decide_eq_true_eq]
    rw [if_pos h]
    simp only [Option.bind_some]
    rw [wrap_id (x := a * a) (by omega) (by omega), wrap_id (x := b * b) (by omega) (by omega), wrap_id (x := c * c) (by omega) (by omega), wrap_id (x := a * a + b * b) (by omega) (by omega), wrap_id (x := a * a + c * c) (by omega) (by omega), e2, e5]
    simp only [Option.bind_some, if_true]
    by_cases c1 : t * t = a * a + b * b
    · by_cases c2 : s * s = a * a + c * c
      · rw [e3 c1, e6 c2]; simp [c1, c2]
      · simp [c1, c2]
    · simp [c1]

theorem lengths_no (k : Nat) (a b c : Int) (h : ¬ ((1 ≤ a ∧ a ≤ 1000) ∧ (1 ≤ b ∧ b ≤ 1000) ∧ (1 ≤ c ∧ c ≤ 1000))) (hk : 60 < k) : impl_LengthsOf.f k a b c = some (0, 0, false) := by
  obtain ⟨t, r, _, e2, _⟩ := roots k 0 (by omega) (by omega) hk
  simp only [impl_LengthsOf.f, impl_SquaresOf.f, lad_impl, Option.bind_some, decide_eq_true_eq]
  rw [if_neg h]
  simp [e2]



end FnExactIsWholeCrossingL
open FnExactIsWholeCrossingL

theorem FnExactIsWholeCrossing (a b c : Int) (_ : (Lit.int .i64 a).wf = true) (_ : (Lit.int .i64 b).wf = true) (_ : (Lit.int .i64 c).wf = true) : ∃ k, laws_FnExactIsWholeCrossing.f k a b c = some true := by
  refine ⟨100, ?_⟩
  simp only [laws_FnExactIsWholeCrossing.f, laws_toLadders.f, spec_IsWholeCrossing.f, spec_clWhole.f, impl_IsWholeCrossing.f, impl_isWholeCrossing.f, lad_spec, lad_impl, Option.bind_some, decide_eq_true_eq]
  by_cases h : (1 ≤ a ∧ a ≤ 1000) ∧ (1 ≤ b ∧ b ≤ 1000) ∧ (1 ≤ c ∧ c ≤ 1000)
  · obtain ⟨t, s, o, e1, e2⟩ := lengths_ev 100 a b c h (by omega)
    have e : wrap64 (b + c) ≠ 0 := by rw [wrap_id (by omega) (by omega)]; omega
    rw [if_pos h, if_pos h, e1, e2]
    cases o <;> simp [h, e]
  · rw [if_neg h, if_neg h]; simp [h]

end Go.Proofs.Ytheeghlfckhdeaa.Pure
