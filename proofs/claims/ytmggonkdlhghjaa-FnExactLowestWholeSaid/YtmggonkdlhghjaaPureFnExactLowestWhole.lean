/- The plain law of FnExactLowestWhole: for every argument the printed law function answers true. No condition beyond the statement's own. -/
import Derived.Test.YtmggonkdlhghjaaLW3
set_option linter.unusedVariables false
set_option linter.unusedSimpArgs false
namespace Go.Proofs.Ytmggonkdlhghjaa.Pure
open Go.RowKit Go.Proofs.Ytmggonkdlhghjaa.PFnExactLowestWhole Go.Proofs.YtmggonkdlhghjaaW.PrintWords Go.Proofs.YtmggonkdlhghjaaW.PrintLast Go.Proofs.YtmggonkdlhghjaaW.PrintMore
namespace FnExactLowestWholeL
theorem wrap_id {x : Int} (h0 : -9223372036854775808 ≤ x) (h1 : x ≤ 9223372036854775807) : wrap64 x = x := by unfold wrap64; omega

theorem in_eq (a b c : Int) : spec_l1In.f a b c = some (decide (b ≤ a ∧ a ≤ c)) := by
  unfold spec_l1In.f
  by_cases h : a ≥ b
  · rw [if_pos h]; simp [h]
  · rw [if_neg h]; simp; omega

theorem within_eq (a b c : Int) : impl_within.f a b c = some (decide (b ≤ a ∧ a ≤ c)) := by
  unfold impl_within.f
  by_cases h : a ≥ b
  · rw [if_pos h]; simp [h]
  · rw [if_neg h]; simp; omega

theorem mulb {a b A B : Int} (ha : 0 ≤ a) (ha2 : a ≤ A) (hb : 0 ≤ b) (hb2 : b ≤ B) : 0 ≤ a * b ∧ a * b ≤ A * B :=
  ⟨Int.mul_nonneg ha hb, Int.mul_le_mul ha2 hb2 hb (by omega)⟩


theorem stepK {α : Type} {g f : Nat → Option α} {r : α} (K0 : Nat) (h : ∀ k, K0 ≤ k → g (k + 1) = f k) (hf : Ev f r) : Ev g r := by
  obtain ⟨K, hK⟩ := hf
  refine ⟨K + K0 + 1, fun k hk => ?_⟩
  obtain ⟨k, rfl⟩ : ∃ m, k = m + 1 := ⟨k - 1, by omega⟩
  rw [h k (by omega), hK k (by omega)]
theorem congrK {α : Type} {g f : Nat → Option α} {r : α} (K0 : Nat) (h : ∀ k, K0 ≤ k → g k = f k) (hf : Ev f r) : Ev g r := by
  obtain ⟨K, hK⟩ := hf
  exact ⟨K + K0, fun k hk => by rw [h k (by omega), hK k (by omega)]⟩

theorem bind_eq {α β : Type} {g : Option α} {a : α} (h : g = some a) (f : α → Option β) : g.bind f = f a := by rw [h]; rfl


theorem sq_lt {a b : Int} (hb : 0 ≤ b) (h : a * a < b * b) : a < b := by
  by_cases h2 : a < b
  · exact h2
  · have := Int.mul_le_mul (show b ≤ a by omega) (show b ≤ a by omega) hb (by omega)
    omega

theorem mid_bd {l h : Int} (hl : 0 ≤ l) (hh : l < h) (hb : h ≤ 2147483648) : wrap64 (Int.tdiv (wrap64 (l + h)) 2) = (l + h) / 2 := by
  rw [wrap_id (x := l + h) (by omega) (by omega), Int.tdiv_eq_ediv_of_nonneg (by omega), wrap_id (by omega) (by omega)]

theorem sq_bd {m : Int} (h0 : 0 ≤ m) (h1 : m ≤ 2147483648) : 0 ≤ m * m ∧ m * m ≤ 4611686018427387904 := by
  have := mulb h0 h1 h0 h1
  omega

theorem clRoot_l (s : Int) (n : Nat) : ∀ (k : Nat) (l h : Int), 0 ≤ l → l < h → h ≤ 2147483648 → l * l ≤ s → s < h * h → h - l ≤ ((2 ^ n : Nat) : Int) → n < k →
    ∃ t, spec_clRoot.l0 k s l h = some t ∧ 0 ≤ t ∧ t * t ≤ s ∧ s < (t + 1) * (t + 1) := by
  induction n with
  | zero =>
    intro k l h h0 h1 h2 h3 h4 h5 hk
    obtain ⟨k, rfl⟩ : ∃ m, k = m + 1 := ⟨k - 1, by omega⟩
    simp only [Nat.pow_zero] at h5
    refine ⟨l, ?_, h0, h3, ?_⟩
    · simp only [spec_clRoot.l0]
      rw [wrap_id (x := h - 1) (by omega) (by omega), if_neg (by omega)]
    · have e : h = l + 1 := by omega
      rw [e] at h4; exact h4
  | succ n ih =>
    intro k l h h0 h1 h2 h3 h4 h5 hk
    obtain ⟨k, rfl⟩ : ∃ m, k = m + 1 := ⟨k - 1, by omega⟩
    rw [Nat.pow_succ] at h5
    generalize hm : 2 ^ n = m at h5 ih
    by_cases hlt : l < h - 1
    · have hb := sq_bd (m := (l + h) / 2) (by omega) (by omega)
      have em := mid_bd h0 h1 h2
      by_cases c : (l + h) / 2 * ((l + h) / 2) ≤ s
      · obtain ⟨t, ht, r⟩ := ih k ((l + h) / 2) h (by omega) (by omega) h2 c h4 (by omega) (by omega)
        refine ⟨t, ?_, r⟩
        simp only [spec_clRoot.l0]
        rw [wrap_id (x := h - 1) (by omega) (by omega), if_pos hlt, em, wrap_id (x := (l + h) / 2 * ((l + h) / 2)) (by omega) (by omega), if_pos c, ht]
      · obtain ⟨t, ht, r⟩ := ih k l ((l + h) / 2) h0 (by omega) (by omega) h3 (by omega) (by omega) (by omega)
        refine ⟨t, ?_, r⟩
        simp only [spec_clRoot.l0]
        rw [wrap_id (x := h - 1) (by omega) (by omega), if_pos hlt, em, wrap_id (x := (l + h) / 2 * ((l + h) / 2)) (by omega) (by omega), if_neg c, ht]
    · refine ⟨l, ?_, h0, h3, ?_⟩
      · simp only [spec_clRoot.l0]
        rw [wrap_id (x := h - 1) (by omega) (by omega), if_neg hlt]
      · have e : h = l + 1 := by omega
        rw [e] at h4; exact h4

theorem clRoot_ev (k : Nat) (s : Int) (h0 : 0 ≤ s) (h1 : s ≤ 1099511627776) (hk : 40 < k) : ∃ t, spec_clRoot.f k s = some t ∧ 0 ≤ t ∧ t * t ≤ s ∧ s < (t + 1) * (t + 1) :=
  clRoot_l s 31 k 0 2147483648 (by omega) (by omega) (by omega) (by omega) (by omega) (by omega) (by omega)

theorem rootOf_l1 (s : Int) (hs0 : 0 ≤ s) (n : Nat) : ∀ (k : Nat) (l h : Int), 0 ≤ l → l ≤ h → h ≤ 2147483648 → (l = 0 ∨ (l - 1) * (l - 1) < s) → s ≤ h * h → h - l < ((2 ^ n : Nat) : Int) → n < k →
    ∃ t, impl_rootOf.l1 k s l h = some (t, t * t == s) ∧ 0 ≤ t ∧ t ≤ 2147483648 ∧ s ≤ t * t ∧ (t = 0 ∨ (t - 1) * (t - 1) < s) := by
  induction n with
  | zero =>
    intro k l h h0 h1 h2 h3 h4 h5 hk
    obtain ⟨k, rfl⟩ : ∃ m, k = m + 1 := ⟨k - 1, by omega⟩
    simp only [Nat.pow_zero] at h5
    obtain rfl : h = l := by omega
    have hb := sq_bd h0 h2
    refine ⟨h, ?_, h0, h2, h4, h3⟩
    simp only [impl_rootOf.l1]
    rw [if_neg (by omega), wrap_id (x := h * h) (by omega) (by omega)]
  | succ n ih =>
    intro k l h h0 h1 h2 h3 h4 h5 hk
    obtain ⟨k, rfl⟩ : ∃ m, k = m + 1 := ⟨k - 1, by omega⟩
    rw [Nat.pow_succ] at h5
    generalize hm : 2 ^ n = m at h5 ih
    by_cases hlt : l < h
    · have hb := sq_bd (m := (l + h) / 2) (by omega) (by omega)
      have em := mid_bd h0 hlt h2
      by_cases c : (l + h) / 2 * ((l + h) / 2) < s
      · obtain ⟨t, ht, r⟩ := ih k ((l + h) / 2 + 1) h (by omega) (by omega) h2 (.inr (by rw [show (l + h) / 2 + 1 - 1 = (l + h) / 2 by omega]; exact c)) h4 (by omega) (by omega)
        refine ⟨t, ?_, r⟩
        simp only [impl_rootOf.l1]
        rw [if_pos hlt, em, wrap_id (x := (l + h) / 2 * ((l + h) / 2)) (by omega) (by omega), if_pos c, wrap_id (x := (l + h) / 2 + 1) (by omega) (by omega), ht]
      · obtain ⟨t, ht, r⟩ := ih k l ((l + h) / 2) h0 (by omega) (by omega) h3 (by omega) (by omega) (by omega)
        refine ⟨t, ?_, r⟩
        simp only [impl_rootOf.l1]
        rw [if_pos hlt, em, wrap_id (x := (l + h) / 2 * ((l + h) / 2)) (by omega) (by omega), if_neg c, ht]
    · obtain rfl : h = l := by omega
      have hb := sq_bd h0 h2
      refine ⟨h, ?_, h0, h2, h4, h3⟩
      simp only [impl_rootOf.l1]
      rw [if_neg (by omega), wrap_id (x := h * h) (by omega) (by omega)]

theorem rootOf_l0 (s : Int) (hs0 : 0 ≤ s) (hs : s ≤ 1099511627776) (n : Nat) : ∀ (k : Nat) (h : Int), 1 ≤ h → h ≤ 2097152 → s ≤ (h * ((2 ^ n : Nat) : Int)) * (h * ((2 ^ n : Nat) : Int)) → n + 30 < k →
    ∃ t, impl_rootOf.l0 k s 0 h = some (t, t * t == s) ∧ 0 ≤ t ∧ t ≤ 2147483648 ∧ s ≤ t * t ∧ (t = 0 ∨ (t - 1) * (t - 1) < s) := by
  induction n with
  | zero =>
    intro k h h1 h2 h3 hk
    obtain ⟨k, rfl⟩ : ∃ m, k = m + 1 := ⟨k - 1, by omega⟩
    simp only [Nat.pow_zero] at h3
    rw [show ((1 : Nat) : Int) = 1 from rfl, Int.mul_one] at h3
    have hb := sq_bd (m := h) (by omega) (by omega)
    simp only [impl_rootOf.l0]
    rw [wrap_id (x := h * h) (by omega) (by omega), if_neg (by omega)]
    exact rootOf_l1 s hs0 22 k 0 h (by omega) (by omega) (by omega) (.inl rfl) h3 (by omega) (by omega)
  | succ n ih =>
    intro k h h1 h2 h3 hk
    obtain ⟨k, rfl⟩ : ∃ m, k = m + 1 := ⟨k - 1, by omega⟩
    have hb := sq_bd (m := h) (by omega) (by omega)
    simp only [impl_rootOf.l0]
    rw [wrap_id (x := h * h) (by omega) (by omega)]
    by_cases c : h * h < s
    · have hle : h < 1048577 := sq_lt (by omega) (by omega)
      rw [if_pos c, wrap_id (x := h * 2) (by omega) (by omega)]
      refine ih k (h * 2) (by omega) (by omega) ?_ (by omega)
      have e : h * ((2 ^ (n + 1) : Nat) : Int) = h * 2 * ((2 ^ n : Nat) : Int) := by
        rw [Nat.pow_succ, Int.natCast_mul, Int.mul_assoc]
        congr 1
        exact Int.mul_comm _ _
      rw [← e]; exact h3
    · rw [if_neg c]
      exact rootOf_l1 s hs0 22 k 0 h (by omega) (by omega) (by omega) (.inl rfl) (by omega) (by omega) (by omega)

theorem rootOf_ev (k : Nat) (s : Int) (h0 : 0 ≤ s) (h1 : s ≤ 1099511627776) (hk : 60 < k) :
    ∃ t, impl_rootOf.f k s = some (t, t * t == s) ∧ 0 ≤ t ∧ t ≤ 2147483648 ∧ s ≤ t * t ∧ (t = 0 ∨ (t - 1) * (t - 1) < s) :=
  rootOf_l0 s h0 h1 20 k 1 (by omega) (by omega) (by simp; omega) (by omega)

/-- Both roots tell alike whether a number is a square, and which root it has. -/
theorem roots (k : Nat) (s : Int) (h0 : 0 ≤ s) (h1 : s ≤ 1099511627776) (hk : 60 < k) :
    ∃ t r : Int, spec_clRoot.f k s = some t ∧ impl_rootOf.f k s = some (r, t * t == s) ∧ (t * t = s → r = t) ∧ 0 ≤ t ∧ t * t ≤ s := by
  obtain ⟨t, e1, t0, t1, t2⟩ := clRoot_ev k s h0 h1 (by omega)
  obtain ⟨r, e2, r0, r1, r2, r3⟩ := rootOf_ev k s h0 h1 hk
  have key1 : t * t = s → r = t := by
    intro e
    have a : t < r + 1 := sq_lt (by omega) (by rw [e, Int.add_mul, Int.mul_add]; omega)
    rcases r3 with rfl | r3
    · omega
    · have b : r - 1 < t := sq_lt t0 (by omega)
      omega
  have key2 : r * r = s → t * t = s := by
    intro e
    have a : t < r + 1 := sq_lt (by omega) (by rw [Int.add_mul, Int.mul_add]; omega)
    have b : r < t + 1 := sq_lt (by omega) (by omega)
    have : r = t := by omega
    rw [← this]; exact e
  refine ⟨t, r, e1, ?_, key1, t0, t1⟩
  rw [e2]
  congr 2
  rw [Bool.eq_iff_iff, beq_iff_eq, beq_iff_eq]
  exact ⟨key2, fun e => by rw [key1 e]; exact e⟩


def Good (a : Int) (x : S37) : Prop := 1 ≤ x.f0 ∧ x.f0 < a ∧ 1 ≤ x.f2 ∧ x.f2 ≤ x.f1 ∧ x.f1 < a ∧ Int.tmod (x.f1 * x.f2) (x.f1 + x.f2) = 0 ∧ (∃ t : Int, 0 ≤ t ∧ t ≤ a ∧ t * t = x.f0 * x.f0 + x.f1 * x.f1) ∧ (∃ t : Int, 0 ≤ t ∧ t ≤ a ∧ t * t = x.f0 * x.f0 + x.f2 * x.f2)
def HOk (a w : Int) (H : List Int) : Prop := H.length ≤ 150 ∧ (∀ h ∈ H, 1 ≤ h ∧ h < a ∧ ∃ t : Int, 0 ≤ t ∧ t ≤ a ∧ t * t = w * w + h * h) ∧ H.Pairwise (· < ·)
def Both (a : Int) (f : Nat → Option (List S37)) (g : Nat → Option (List S37 × Bool)) : Prop := ∃ R : List S37, Ev f R ∧ Ev g (R, true) ∧ R.length ≤ 4000000 ∧ ∀ x ∈ R, Good a x
theorem Both.step {a : Int} {f f' : Nat → Option (List S37)} {g g' : Nat → Option (List S37 × Bool)} (K : Nat) (h : Both a f g) (hf : ∀ k, K ≤ k → f' (k + 1) = f k) (hg : ∀ k, K ≤ k → g' (k + 1) = g k) : Both a f' g' := by
  obtain ⟨R, e1, e2, e3, e4⟩ := h
  exact ⟨R, stepK K hf e1, stepK K hg e2, e3, e4⟩
theorem rd_mem (l : List Int) (i : Int) (h0 : 0 ≤ i) (h1 : i < (l.length : Int)) : rd l i ∈ l := by
  unfold rd
  rw [List.getD_eq_getElem?_getD, List.getElem?_eq_getElem (by omega)]
  exact List.getElem_mem _
theorem rd_get (l : List Int) (i : Int) (h0 : 0 ≤ i) (h1 : i < (l.length : Int)) : l[i.toNat]? = some (rd l i) := by
  unfold rd
  rw [List.getD_eq_getElem?_getD, List.getElem?_eq_getElem (by omega)]
  rfl
theorem root_all (s : Int) (h0 : 0 ≤ s) (h1 : s ≤ 1099511627776) : ∃ t : Int, 0 ≤ t ∧ t * t ≤ s ∧ s < (t + 1) * (t + 1) ∧ ∀ k, 60 < k → spec_clRoot.f k s = some t ∧ ∃ r, impl_rootOf.f k s = some (r, t * t == s) := by
  obtain ⟨t, e, t0, t1, t2⟩ := clRoot_ev 61 s h0 h1 (by omega)
  refine ⟨t, t0, t1, t2, fun k hk => ?_⟩
  obtain ⟨t', e', t0', t1', t2'⟩ := clRoot_ev k s h0 h1 (by omega)
  have a1 : t < t' + 1 := sq_lt (by omega) (by omega)
  have a2 : t' < t + 1 := sq_lt (by omega) (by omega)
  have a3 : t' = t := by omega
  subst a3
  obtain ⟨t2, r, f1, f2, _⟩ := roots k s h0 h1 hk
  rw [e'] at f1
  obtain rfl := Option.some.inj f1
  exact ⟨e', r, f2⟩
theorem l3_both {a w left i : Int} {H y : List Int} (ha : a ≤ 150) (hw : 1 ≤ w ∧ w < a) (hl : 1 ≤ left ∧ left < a ∧ ∃ t : Int, 0 ≤ t ∧ t ≤ a ∧ t * t = w * w + left * left)
    (hy : ∀ h ∈ y, 1 ≤ h ∧ h ≤ left ∧ ∃ t : Int, 0 ≤ t ∧ t ≤ a ∧ t * t = w * w + h * h) (hy2 : y.length ≤ 150) (B : Nat) (hB : B ≤ 4000000)
    (Hc : ∀ L' : List S37, L'.length ≤ B → (∀ x ∈ L', Good a x) → Both a (fun k => spec_clAll.l2 k a L' w H H (H.length : Int) (wrap64 (i + 1))) (fun k => impl_WholeCrossings.l2 k a L' w H H (H.length : Int) (wrap64 (i + 1)))) (n : Nat) :
    ∀ (L : List S37) (j : Int), 0 ≤ j → (y.length : Int) - j = n → L.length + n ≤ B → (∀ x ∈ L, Good a x) →
      Both a (fun k => spec_clAll.l3 k a L w H left H (H.length : Int) i y (y.length : Int) j) (fun k => impl_WholeCrossings.l3 k a L w H left H (H.length : Int) i y (y.length : Int) j) := by
  induction n with
  | zero =>
    intro L j h0 h1 h2 h3
    refine Both.step 0 (Hc L (by omega) h3) (fun k _ => ?_) (fun k _ => ?_)
    · simp only [spec_clAll.l3]
      rw [if_neg (by omega)]
    · simp only [impl_WholeCrossings.l3]
      rw [if_neg (by omega)]
  | succ n ih =>
    intro L j h0 h1 h2 h3
    have hj : j < (y.length : Int) := by omega
    obtain ⟨r1, r2, r3⟩ := hy _ (rd_mem y j h0 hj)
    generalize hr : rd y j = r at r1 r2 r3
    have hb := mulb (a := left) (b := r) (A := 150) (B := 150) (by omega) (by omega) (by omega) (by omega)
    have w1 : wrap64 (left + r) = left + r := wrap_id (by omega) (by omega)
    have w2 : wrap64 (left * r) = left * r := wrap_id (by omega) (by omega)
    have w3 : wrap64 (j + 1) = j + 1 := wrap_id (by omega) (by omega)
    by_cases c : Int.tmod (left * r) (left + r) = 0
    · refine Both.step 0 (ih (L ++ [(⟨w, left, r⟩ : S37)]) (j + 1) (by omega) (by omega) (by rw [List.length_append, List.length_singleton]; omega) (fun x hx => ?_)) (fun k _ => ?_) (fun k _ => ?_)
      · rcases List.mem_append.1 hx with h | h
        · exact h3 x h
        · rw [List.mem_singleton.1 h]
          exact ⟨hw.1, hw.2, r1, r2, hl.2.1, c, hl.2.2, r3⟩
      · simp only [spec_clAll.l3]
        rw [if_pos hj, if_pos h0, if_pos hj, hr, w1, w2, w3, if_neg (by omega), if_pos c, if_pos (by omega)]
      · simp only [impl_WholeCrossings.l3]
        rw [if_pos hj, if_pos h0, if_pos hj, hr, w1, w2, w3, if_neg (by omega), if_pos c, if_pos (by omega)]
    · refine Both.step 0 (ih L (j + 1) (by omega) (by omega) (by omega) h3) (fun k _ => ?_) (fun k _ => ?_)
      · simp only [spec_clAll.l3]
        rw [if_pos hj, if_pos h0, if_pos hj, hr, w1, w2, w3, if_neg (by omega), if_neg c]
      · simp only [impl_WholeCrossings.l3]
        rw [if_pos hj, if_pos h0, if_pos hj, hr, w1, w2, w3, if_neg (by omega), if_neg c]
theorem l2_both {a w : Int} {H : List Int} (ha : a ≤ 150) (hw : 1 ≤ w ∧ w < a) (hH : HOk a w H) (B : Nat) (hB : B ≤ 4000000)
    (Hc : ∀ L' : List S37, L'.length ≤ B → (∀ x ∈ L', Good a x) → Both a (fun k => spec_clAll.l0 k a L' (wrap64 (w + 1))) (fun k => impl_WholeCrossings.l0 k a L' (wrap64 (w + 1)))) (n : Nat) :
    ∀ (L : List S37) (i : Int), 0 ≤ i → (H.length : Int) - i = n → L.length + 150 * n ≤ B → (∀ x ∈ L, Good a x) →
      Both a (fun k => spec_clAll.l2 k a L w H H (H.length : Int) i) (fun k => impl_WholeCrossings.l2 k a L w H H (H.length : Int) i) := by
  obtain ⟨h150, hall, hup⟩ := hH
  induction n with
  | zero =>
    intro L i h0 h1 h2 h3
    refine Both.step 0 (Hc L (by omega) h3) (fun k _ => ?_) (fun k _ => ?_)
    · simp only [spec_clAll.l2]
      rw [if_neg (by omega)]
    · simp only [impl_WholeCrossings.l2]
      rw [if_neg (by omega)]
  | succ n ih =>
    intro L i h0 h1 h2 h3
    have hi : i < (H.length : Int) := by omega
    have w1 : wrap64 (i + 1) = i + 1 := wrap_id (by omega) (by omega)
    have hlen : (H.take (i + 1).toNat).length = (i + 1).toNat := by rw [List.length_take]; omega
    have hmem := rd_mem H i h0 hi
    have hgi := rd_get H i h0 hi
    refine Both.step 0 (l3_both (a := a) (w := w) (left := rd H i) (i := i) (H := H) (y := H.take (i + 1).toNat) ha hw (hall _ hmem) (fun h hh => ?_) (by omega) (L.length + 150) (by omega) (fun L' h4 h5 => ?_) (i + 1).toNat L 0 (by omega) (by omega) (by omega) h3) (fun k _ => ?_) (fun k _ => ?_)
    · obtain ⟨b1, b2, b3⟩ := hall _ (List.mem_of_mem_take hh)
      refine ⟨b1, ?_, b3⟩
      obtain ⟨j, hj, hjh⟩ := List.getElem_of_mem hh
      rw [List.getElem_take] at hjh
      rw [hlen] at hj
      rcases Nat.lt_or_ge j i.toNat with h | h
      · have := List.pairwise_iff_getElem.1 hup j i.toNat (by omega) (by omega) h
        rw [List.getElem?_eq_getElem (by omega)] at hgi
        have e := Option.some.inj hgi
        rw [e, hjh] at this
        omega
      · have ej : j = i.toNat := by omega
        subst ej
        rw [List.getElem?_eq_getElem (by omega)] at hgi
        have e := Option.some.inj hgi
        omega
    · rw [w1]
      exact ih L' (i + 1) (by omega) (by omega) (by omega) h5
    · simp only [spec_clAll.l2, Option.bind_some]
      rw [if_pos hi, if_pos h0, if_pos hi, w1, if_pos (by omega), if_pos (by omega)]
    · simp only [impl_WholeCrossings.l2, Option.bind_some]
      rw [if_pos hi, if_pos h0, if_pos hi, w1, if_pos (by omega), if_pos (by omega)]
theorem l1_tail {a w : Int} {L : List S37} {H : List Int} {R : List S37} (ha : 1 ≤ a ∧ a ≤ 150) (hw : 1 ≤ w ∧ w < a) (hR : Ev (fun k => spec_clAll.l2 k a L w H H (H.length : Int) 0) R) (n : Nat) :
    ∀ (i : Int), 1 ≤ i → a ≤ i + n → i ≤ 150 → a * a < w * w + i * i → Ev (fun k => spec_clAll.l1 k a L w H i) R := by
  induction n with
  | zero =>
    intro i h0 h1 h2 h3
    refine stepK 0 (fun k _ => ?_) hR
    simp only [spec_clAll.l1]
    rw [if_neg (by omega)]
  | succ n ih =>
    intro i h0 h1 h2 h3
    by_cases hlt : i < a
    · have m1 := mulb (a := w) (b := w) (A := 150) (B := 150) (by omega) (by omega) (by omega) (by omega)
      have m2 := mulb (a := i) (b := i) (A := 150) (B := 150) (by omega) (by omega) (by omega) (by omega)
      obtain ⟨t, t0, t1, t2, ht⟩ := root_all (w * w + i * i) (by omega) (by omega)
      have tb : t < 1000 := by
        refine sq_lt (by omega) ?_
        omega
      have tm := mulb (a := t) (b := t) (A := 1000) (B := 1000) (by omega) (by omega) (by omega) (by omega)
      have hii : i * i ≤ (i + 1) * (i + 1) := Int.mul_le_mul (by omega) (by omega) (by omega) (by omega)
      refine stepK 61 (fun k hk => ?_) (ih (i + 1) (by omega) (by omega) (by omega) (by omega))
      simp only [spec_clAll.l1]
      rw [if_pos hlt, wrap_id (x := w * w) (by omega) (by omega), wrap_id (x := i * i) (by omega) (by omega), wrap_id (x := w * w + i * i) (by omega) (by omega), bind_eq (ht k (by omega)).1, wrap_id (x := t * t) (by omega) (by omega), wrap_id (x := i + 1) (by omega) (by omega)]
      by_cases c : t * t = w * w + i * i
      · have c2 : ¬ t ≤ a := fun h => by
          have := Int.mul_le_mul h h t0 (by omega)
          omega
        rw [if_pos c, if_neg c2]
      · rw [if_neg c]
    · refine stepK 0 (fun k _ => ?_) hR
      simp only [spec_clAll.l1]
      rw [if_neg hlt]
theorem l1_both {a w : Int} {L : List S37} (ha : 1 ≤ a ∧ a ≤ 150) (hw : 1 ≤ w ∧ w < a)
    (Hc : ∀ H : List Int, HOk a w H → Both a (fun k => spec_clAll.l2 k a L w H H (H.length : Int) 0) (fun k => impl_WholeCrossings.l2 k a L w H H (H.length : Int) 0)) (n : Nat) :
    ∀ (H : List Int) (i : Int), 1 ≤ i → a = i + n → (H.length : Int) < i → HOk a w H → (∀ h ∈ H, h < i) →
      Both a (fun k => spec_clAll.l1 k a L w H i) (fun k => impl_WholeCrossings.l1 k a L w H i) := by
  have m1 := mulb (a := w) (b := w) (A := 150) (B := 150) (by omega) (by omega) (by omega) (by omega)
  have m3 := mulb (a := a) (b := a) (A := 150) (B := 150) (by omega) (by omega) (by omega) (by omega)
  have m4 : 1 ≤ w * w := by
    have := Int.mul_le_mul hw.1 hw.1 (by omega) (by omega)
    omega
  have stop : ∀ (H : List Int) (i : Int), 1 ≤ i → i ≤ a → HOk a w H → a * a < w * w + i * i → Both a (fun k => spec_clAll.l1 k a L w H i) (fun k => impl_WholeCrossings.l1 k a L w H i) := fun H i h0 h1 hH h3 => by
    obtain ⟨R, e1, e2, e3, e4⟩ := Hc H hH
    have m2 := mulb (a := i) (b := i) (A := 150) (B := 150) (by omega) (by omega) (by omega) (by omega)
    refine ⟨R, l1_tail ha hw e1 (a - i).toNat i h0 (by omega) (by omega) h3, stepK 0 (fun k _ => ?_) e2, e3, e4⟩
    simp only [impl_WholeCrossings.l1]
    rw [wrap_id (x := w * w) (by omega) (by omega), wrap_id (x := i * i) (by omega) (by omega), wrap_id (x := a * a) (by omega) (by omega), wrap_id (x := w * w + i * i) (by omega) (by omega), if_neg (by omega)]
  induction n with
  | zero =>
    intro H i h0 h1 h2 hH h3
    have e : a = i := by omega
    subst e
    exact stop H a h0 (by omega) hH (by omega)
  | succ n ih =>
    intro H i h0 h1 h2 hH h3
    have m2 := mulb (a := i) (b := i) (A := 150) (B := 150) (by omega) (by omega) (by omega) (by omega)
    by_cases c0 : a * a < w * w + i * i
    · exact stop H i h0 (by omega) hH c0
    · obtain ⟨t, t0, t1, t2, ht⟩ := root_all (w * w + i * i) (by omega) (by omega)
      have tb : t < 1000 := by
        refine sq_lt (by omega) ?_
        omega
      have tm := mulb (a := t) (b := t) (A := 1000) (B := 1000) (by omega) (by omega) (by omega) (by omega)
      have ta : t ≤ a := by
        have : t < a + 1 := sq_lt (by omega) (by rw [Int.add_mul, Int.mul_add]; omega)
        omega
      have w1 : wrap64 (w * w) = w * w := wrap_id (by omega) (by omega)
      have w2 : wrap64 (i * i) = i * i := wrap_id (by omega) (by omega)
      have w3 : wrap64 (w * w + i * i) = w * w + i * i := wrap_id (by omega) (by omega)
      have w4 : wrap64 (a * a) = a * a := wrap_id (by omega) (by omega)
      have w5 : wrap64 (i + 1) = i + 1 := wrap_id (by omega) (by omega)
      have w6 : wrap64 (t * t) = t * t := wrap_id (by omega) (by omega)
      by_cases c : t * t = w * w + i * i
      · refine Both.step 61 (ih (H ++ [i]) (i + 1) (by omega) (by omega) (by rw [List.length_append, List.length_singleton]; omega) ⟨?_, fun h hh => ?_, ?_⟩ (fun h hh => ?_)) (fun k hk => ?_) (fun k hk => ?_)
        · rw [List.length_append, List.length_singleton]; omega
        · rcases List.mem_append.1 hh with h4 | h4
          · exact hH.2.1 h h4
          · rw [List.mem_singleton.1 h4]
            exact ⟨h0, by omega, t, t0, ta, c⟩
        · refine List.pairwise_append.2 ⟨hH.2.2, List.pairwise_singleton _ _, fun x hx y hy => ?_⟩
          rw [List.mem_singleton.1 hy]
          exact h3 x hx
        · rcases List.mem_append.1 hh with h4 | h4
          · have := h3 h h4
            omega
          · rw [List.mem_singleton.1 h4]
            omega
        · simp only [spec_clAll.l1]
          rw [if_pos (by omega), w1, w2, w3, bind_eq (ht k (by omega)).1, w5, w6, if_pos c, if_pos ta, if_pos (by omega)]
        · obtain ⟨r, hr⟩ := (ht k (by omega)).2
          simp only [impl_WholeCrossings.l1]
          rw [w1, w2, w3, w4, if_pos (by omega), bind_eq hr, w5, if_pos (by simpa using c), if_pos (by omega)]
      · refine Both.step 61 (ih H (i + 1) (by omega) (by omega) (by omega) hH (fun h hh => by have := h3 h hh; omega)) (fun k hk => ?_) (fun k hk => ?_)
        · simp only [spec_clAll.l1]
          rw [if_pos (by omega), w1, w2, w3, bind_eq (ht k (by omega)).1, w5, w6, if_neg c]
        · obtain ⟨r, hr⟩ := (ht k (by omega)).2
          simp only [impl_WholeCrossings.l1]
          rw [w1, w2, w3, w4, if_pos (by omega), bind_eq hr, w5, if_neg (by simpa using c)]
theorem l0_both {a : Int} (ha : 1 ≤ a ∧ a ≤ 150) (n : Nat) : ∀ (L : List S37) (w : Int), 1 ≤ w → a = w + n → (L.length : Int) ≤ 22500 * (w - 1) → (∀ x ∈ L, Good a x) →
    Both a (fun k => spec_clAll.l0 k a L w) (fun k => impl_WholeCrossings.l0 k a L w) := by
  induction n with
  | zero =>
    intro L w h0 h1 h2 h3
    refine ⟨L, stepK 0 (f := fun _ => some L) (fun k _ => ?_) (Ev.now _), stepK 0 (f := fun _ => some (L, true)) (fun k _ => ?_) (Ev.now _), by omega, h3⟩
    · simp only [spec_clAll.l0]
      rw [if_neg (by omega)]
    · simp only [impl_WholeCrossings.l0]
      rw [if_neg (by omega)]
  | succ n ih =>
    intro L w h0 h1 h2 h3
    have w1 : wrap64 (w + 1) = w + 1 := wrap_id (by omega) (by omega)
    refine Both.step 0 (l1_both (a := a) (w := w) (L := L) ha ⟨h0, by omega⟩ (fun H hH => ?_) (a - 1).toNat [] 1 (by omega) (by omega) (by simp) ⟨by simp, by simp, List.Pairwise.nil⟩ (by simp)) (fun k _ => ?_) (fun k _ => ?_)
    · have h150 := hH.1
      refine l2_both (by omega) ⟨h0, by omega⟩ hH (22500 * w).toNat (by omega) (fun L' h4 h5 => ?_) H.length L 0 (by omega) (by omega) (by omega) h3
      rw [w1]
      exact ih L' (w + 1) (by omega) (by omega) (by omega) h5
    · simp only [spec_clAll.l0]
      rw [if_pos (by omega)]
    · simp only [impl_WholeCrossings.l0]
      rw [if_pos (by omega)]
/-- Both sides tell the same ladders. -/
theorem all_both {a : Int} (ha : 1 ≤ a ∧ a ≤ 150) : ∃ R : List S37, Ev (fun k => spec_clAll.f k a) R ∧ Ev (fun k => impl_WholeCrossings.f k a) (R, true) ∧ R.length ≤ 4000000 ∧ ∀ x ∈ R, Good a x := by
  obtain ⟨R, e1, e2, e3, e4⟩ := l0_both ha (a - 1).toNat [] 1 (by omega) (by omega) (by simp) (by simp)
  refine ⟨R, e1, congrK 0 (fun k _ => ?_) e2, e3, e4⟩
  simp only [impl_WholeCrossings.f, within_eq, Option.bind_some]
  rw [if_pos (decide_eq_true ha)]
theorem all_none {a : Int} (ha : ¬ (1 ≤ a ∧ a ≤ 150)) : Ev (fun k => impl_WholeCrossings.f k a) (([] : List S37), false) := by
  refine ⟨0, fun k _ => ?_⟩
  simp only [impl_WholeCrossings.f, within_eq, Option.bind_some]
  rw [if_neg (by simpa using ha)]

theorem cross_pos {a : Int} {x : S37} (ha : a ≤ 150) (h : Good a x) : 1 ≤ Int.tdiv (x.f1 * x.f2) (x.f1 + x.f2) ∧ Int.tdiv (x.f1 * x.f2) (x.f1 + x.f2) ≤ 22500 ∧ 0 ≤ x.f1 * x.f2 ∧ x.f1 * x.f2 ≤ 22500 := by
  obtain ⟨g1, g2, g3, g4, g5, g6, -, -⟩ := h
  have hb := mulb (a := x.f1) (b := x.f2) (A := 150) (B := 150) (by omega) (by omega) (by omega) (by omega)
  have hp : 1 ≤ x.f1 * x.f2 := by
    have := Int.mul_le_mul (show (1 : Int) ≤ x.f1 by omega) g3 (by omega) (by omega)
    omega
  have hd := Int.mul_tdiv_add_tmod (x.f1 * x.f2) (x.f1 + x.f2)
  rw [g6] at hd
  rw [Int.tdiv_eq_ediv_of_nonneg (by omega)] at hd ⊢
  have h0 : 0 ≤ x.f1 * x.f2 / (x.f1 + x.f2) := Int.ediv_nonneg (by omega) (by omega)
  have h2 : x.f1 * x.f2 / (x.f1 + x.f2) ≤ x.f1 * x.f2 := Int.ediv_le_self _ (by omega)
  refine ⟨?_, by omega, hb.1, by omega⟩
  by_cases c : x.f1 * x.f2 / (x.f1 + x.f2) = 0
  · rw [c, Int.mul_zero] at hd
    omega
  · omega
theorem rdT_mem (l : List S37) (i : Int) (h0 : 0 ≤ i) (h1 : i < (l.length : Int)) : rd_T37 l i ∈ l := by
  unfold rd_T37
  rw [List.getD_eq_getElem?_getD, List.getElem?_eq_getElem (by omega)]
  exact List.getElem_mem _
theorem low_l {a : Int} (ha : a ≤ 150) {R : List S37} (hR : ∀ x ∈ R, Good a x) (hl : R.length ≤ 4000000) (n : Nat) : ∀ (m i b0 b1 b2 : Int), 0 ≤ i → (R.length : Int) - i = n → 0 ≤ m → (m = 0 → b0 = 0 ∧ b1 = 0 ∧ b2 = 0) →
    ∃ r : Int × Int × Int × Int × Bool, Ev (fun k => spec_LowestWhole.l0 k m R (R.length : Int) i b0 b1 b2) r ∧ Ev (fun k => impl_LowestWhole.l0 k m R (R.length : Int) i b0 b1 b2) r := by
  induction n with
  | zero =>
    intro m i b0 b1 b2 h0 h1 h2 h3
    refine ⟨(b0, b1, b2, m, decide (m > 0)), stepK 0 (f := fun _ => some (b0, b1, b2, m, decide (m > 0))) (fun k _ => ?_) (Ev.now _), stepK 0 (f := fun _ => some (b0, b1, b2, m, decide (m > 0))) (fun k _ => ?_) (Ev.now _)⟩
    · simp only [spec_LowestWhole.l0]
      rw [if_neg (by omega)]
      by_cases c : m = 0
      · obtain ⟨rfl, rfl, rfl⟩ := h3 c
        subst c
        rfl
      · rw [if_neg c, decide_eq_true (show m > 0 by omega)]
    · simp only [impl_LowestWhole.l0]
      rw [if_neg (by omega)]
  | succ n ih =>
    intro m i b0 b1 b2 h0 h1 h2 h3
    have hi : i < (R.length : Int) := by omega
    have hg := hR _ (rdT_mem R i h0 hi)
    obtain ⟨c1, c2, c3, c4⟩ := cross_pos ha hg
    obtain ⟨g1, g2, g3, g4, g5, -⟩ := hg
    obtain ⟨x, hx⟩ : ∃ x, rd_T37 R i = x := ⟨_, rfl⟩
    rw [hx] at c1 c2 c3 c4 g1 g2 g3 g4 g5
    have w1 : wrap64 (x.f1 + x.f2) = x.f1 + x.f2 := wrap_id (by omega) (by omega)
    have w2 : wrap64 (x.f1 * x.f2) = x.f1 * x.f2 := wrap_id (by omega) (by omega)
    have w3 : wrap64 (Int.tdiv (x.f1 * x.f2) (x.f1 + x.f2)) = Int.tdiv (x.f1 * x.f2) (x.f1 + x.f2) := wrap_id (by omega) (by omega)
    have w4 : wrap64 (i + 1) = i + 1 := wrap_id (by omega) (by omega)
    by_cases c : m = 0
    · obtain ⟨r, e1, e2⟩ := ih (Int.tdiv (x.f1 * x.f2) (x.f1 + x.f2)) (i + 1) x.f0 x.f1 x.f2 (by omega) (by omega) (by omega) (fun h => by omega)
      refine ⟨r, stepK 0 (fun k _ => ?_) e1, stepK 0 (fun k _ => ?_) e2⟩
      · simp only [spec_LowestWhole.l0]
        rw [if_pos hi, if_pos h0, if_pos hi, hx, w1, w2, w3, w4, if_neg (by omega), if_pos c]
      · simp only [impl_LowestWhole.l0]
        rw [if_pos hi, if_pos h0, if_pos hi, hx, w1, w2, w3, w4, if_neg (by omega), if_pos c]
    · by_cases c5 : Int.tdiv (x.f1 * x.f2) (x.f1 + x.f2) < m
      · obtain ⟨r, e1, e2⟩ := ih (Int.tdiv (x.f1 * x.f2) (x.f1 + x.f2)) (i + 1) x.f0 x.f1 x.f2 (by omega) (by omega) (by omega) (fun h => by omega)
        refine ⟨r, stepK 0 (fun k _ => ?_) e1, stepK 0 (fun k _ => ?_) e2⟩
        · simp only [spec_LowestWhole.l0]
          rw [if_pos hi, if_pos h0, if_pos hi, hx, w1, w2, w3, w4, if_neg (by omega), if_neg c, if_pos c5]
        · simp only [impl_LowestWhole.l0]
          rw [if_pos hi, if_pos h0, if_pos hi, hx, w1, w2, w3, w4, if_neg (by omega), if_neg c, if_pos c5]
      · obtain ⟨r, e1, e2⟩ := ih m (i + 1) b0 b1 b2 (by omega) (by omega) h2 h3
        refine ⟨r, stepK 0 (fun k _ => ?_) e1, stepK 0 (fun k _ => ?_) e2⟩
        · simp only [spec_LowestWhole.l0]
          rw [if_pos hi, if_pos h0, if_pos hi, hx, w1, w2, w3, w4, if_neg (by omega), if_neg c, if_neg c5]
        · simp only [impl_LowestWhole.l0]
          rw [if_pos hi, if_pos h0, if_pos hi, hx, w1, w2, w3, w4, if_neg (by omega), if_neg c, if_neg c5]
end FnExactLowestWholeL
open FnExactLowestWholeL

theorem FnExactLowestWhole : laws_FnExactLowestWhole.Pure := by
  intro a _
  have key : ∃ r : Int × Int × Int × Int × Bool, Ev (fun k => spec_LowestWhole.f k a) r ∧ Ev (fun k => impl_LowestWhole.f k a) r := by
    by_cases h : 1 ≤ a ∧ a ≤ 150
    · obtain ⟨R, ⟨K1, e1⟩, ⟨K2, e2⟩, e3, e4⟩ := all_both h
      obtain ⟨r, ⟨K3, f1⟩, ⟨K4, f2⟩⟩ := low_l h.2 e4 e3 R.length 0 0 0 0 0 (by omega) (by omega) (by omega) (fun _ => ⟨rfl, rfl, rfl⟩)
      refine ⟨r, ⟨K1 + K3, fun k hk => ?_⟩, ⟨K2 + K4, fun k hk => ?_⟩⟩
      · simp only [spec_LowestWhole.f, in_eq, Option.bind_some]
        rw [if_pos (decide_eq_true h), bind_eq (e1 k (by omega))]
        exact f1 k (by omega)
      · simp only [impl_LowestWhole.f]
        rw [bind_eq (e2 k (by omega))]
        exact f2 k (by omega)
    · obtain ⟨K, e⟩ := all_none h
      refine ⟨(0, 0, 0, 0, false), ⟨0, fun k _ => ?_⟩, ⟨K + 1, fun k hk => ?_⟩⟩
      · simp only [spec_LowestWhole.f, in_eq, Option.bind_some]
        rw [if_neg (by simpa using h)]
      · obtain ⟨k, rfl⟩ : ∃ m, k = m + 1 := ⟨k - 1, by omega⟩
        simp only [impl_LowestWhole.f]
        rw [bind_eq (e (k + 1) (by omega))]
        simp [impl_LowestWhole.l0]
  obtain ⟨r, ⟨K1, h1⟩, ⟨K2, h2⟩⟩ := key
  refine ⟨K1 + K2, ?_⟩
  simp only [laws_FnExactLowestWhole.f]
  rw [bind_eq (h1 _ (by omega)), bind_eq (h2 _ (by omega))]
  simp [laws_eqLadders.f]

end Go.Proofs.Ytmggonkdlhghjaa.Pure
