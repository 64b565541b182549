/- The plain law of FnExactFarthestDark: for every argument the printed law function answers true. No condition beyond the statement's own. -/
import Derived.Test.YtmggonkdlhghjaaPFnExactFarthestDarkx5
set_option linter.unusedVariables false
set_option linter.unusedSimpArgs false
namespace Go.Proofs.Ytmggonkdlhghjaa.Pure
open Go.RowKit Go.Proofs.Ytmggonkdlhghjaa.PFnExactFarthestDark Go.Proofs.YtmggonkdlhghjaaW.PrintWords Go.Proofs.YtmggonkdlhghjaaW.PrintLast Go.Proofs.YtmggonkdlhghjaaW.PrintMore
namespace FnExactFarthestDarkL
theorem wrap_id {x : Int} (h0 : -9223372036854775808 ≤ x) (h1 : x ≤ 9223372036854775807) : wrap64 x = x := by unfold wrap64; omega

theorem in_eq (a b c : Int) : spec_l1In.f a b c = some (decide (b ≤ a ∧ a ≤ c)) := by
  unfold spec_l1In.f
  by_cases h : a ≥ b
  · rw [if_pos h]; simp [h]
  · rw [if_neg h]; simp; omega

theorem within_eq (a b c : Int) : impl_within.f a b c = some (decide (b ≤ a ∧ a ≤ c)) := by
  unfold impl_within.f
  by_cases h : a ≥ b
  · rw [if_pos h]; simp [h]
  · rw [if_neg h]; simp; omega

theorem mulb {a b A B : Int} (ha : 0 ≤ a) (ha2 : a ≤ A) (hb : 0 ≤ b) (hb2 : b ≤ B) : 0 ≤ a * b ∧ a * b ≤ A * B :=
  ⟨Int.mul_nonneg ha hb, Int.mul_le_mul ha2 hb2 hb (by omega)⟩


theorem stepK {α : Type} {g f : Nat → Option α} {r : α} (K0 : Nat) (h : ∀ k, K0 ≤ k → g (k + 1) = f k) (hf : Ev f r) : Ev g r := by
  obtain ⟨K, hK⟩ := hf
  refine ⟨K + K0 + 1, fun k hk => ?_⟩
  obtain ⟨k, rfl⟩ : ∃ m, k = m + 1 := ⟨k - 1, by omega⟩
  rw [h k (by omega), hK k (by omega)]
theorem congrK {α : Type} {g f : Nat → Option α} {r : α} (K0 : Nat) (h : ∀ k, K0 ≤ k → g k = f k) (hf : Ev f r) : Ev g r := by
  obtain ⟨K, hK⟩ := hf
  exact ⟨K + K0, fun k hk => by rw [h k (by omega), hK k (by omega)]⟩


theorem gcd_step {x y : Int} (hx : 0 ≤ x) (hy : 0 < y) : Int.gcd y (Int.tmod x y) = Int.gcd x y := by
  rw [Int.tmod_eq_emod_of_nonneg hx]
  obtain ⟨a, rfl⟩ := Int.eq_ofNat_of_zero_le hx
  obtain ⟨b, rfl⟩ := Int.eq_ofNat_of_zero_le (Int.le_of_lt hy)
  rw [← Int.natCast_emod, Int.gcd_natCast_natCast, Int.gcd_natCast_natCast, Nat.gcd_comm a b, Nat.gcd_rec b a, Nat.gcd_comm]

theorem tmod_bd {x y : Int} (hx : 0 ≤ x) (hy : 0 < y) : 0 ≤ Int.tmod x y ∧ Int.tmod x y < y := by
  rw [Int.tmod_eq_emod_of_nonneg hx]
  exact ⟨Int.emod_nonneg _ (by omega), Int.emod_lt_of_pos _ hy⟩


theorem gcd_ev (n : Nat) : ∀ (k : Nat) (x y : Int), 0 ≤ x → x ≤ 1000000000000000 → 0 ≤ y → y ≤ 1000000000000000 → y ≤ n → n < k → impl_gcd.l0 k x y = some (Int.gcd x y : Int) := by
  induction n with
  | zero =>
    intro k x y hx hx2 hy hy2 hn hk
    obtain ⟨k, rfl⟩ : ∃ m, k = m + 1 := ⟨k - 1, by omega⟩
    obtain rfl : y = 0 := by omega
    simp only [impl_gcd.l0]
    rw [if_pos trivial, wrap_id (by omega) (by omega)]
    congr 1
    unfold mx
    rw [if_neg (by omega), Int.gcd_zero_right]
    omega
  | succ n ih =>
    intro k x y hx hx2 hy hy2 hn hk
    obtain ⟨k, rfl⟩ : ∃ m, k = m + 1 := ⟨k - 1, by omega⟩
    simp only [impl_gcd.l0]
    by_cases h : y = 0
    · subst h
      rw [if_pos rfl, wrap_id (by omega) (by omega)]
      congr 1
      unfold mx
      rw [if_neg (by omega), Int.gcd_zero_right]
      omega
    · have hp : 0 < y := by omega
      have hb := tmod_bd hx hp
      rw [if_neg h, ih k y (Int.tmod x y) hy hy2 hb.1 (by omega) (by omega) (by omega), gcd_step hx hp]


theorem low_ev (n : Nat) : ∀ (k : Nat) (p q x y : Int), 0 ≤ x → 0 ≤ y → y ≤ n → n < k → 0 < x + y →
    spec_clLow.l0 k p q x y = some (wrap64 (Int.tdiv p (Int.gcd x y : Int)), wrap64 (Int.tdiv q (Int.gcd x y : Int))) := by
  induction n with
  | zero =>
    intro k p q x y hx hy hn hk hs
    obtain ⟨k, rfl⟩ : ∃ m, k = m + 1 := ⟨k - 1, by omega⟩
    obtain rfl : y = 0 := by omega
    simp only [spec_clLow.l0]
    rw [if_neg (by omega), if_neg (by omega), Int.gcd_zero_right]
    have e : (x.natAbs : Int) = x := by omega
    rw [e]
  | succ n ih =>
    intro k p q x y hx hy hn hk hs
    obtain ⟨k, rfl⟩ : ∃ m, k = m + 1 := ⟨k - 1, by omega⟩
    simp only [spec_clLow.l0]
    by_cases h : y = 0
    · subst h
      rw [if_neg (by omega), if_neg (by omega), Int.gcd_zero_right]
      have e : (x.natAbs : Int) = x := by omega
      rw [e]
    · have hp : 0 < y := by omega
      have hb := tmod_bd hx hp
      rw [if_pos hp, if_neg h, ih k p q y (Int.tmod x y) hy hb.1 (by omega) (by omega) (by omega), gcd_step hx hp]


theorem frac_ev2 (k k' : Nat) (x y : Int) (hx : 0 ≤ x) (hx2 : x ≤ 1000000000000000) (hy : 0 < y) (hy2 : y ≤ 1000000000000000) (hk : y < k) (hk' : y < k') :
    ∃ a b : Int, spec_clLow.f k x y = some (a, b) ∧ impl_fraction.f k' x y = some (a, b, true) := by
  have hg : (Int.gcd x y : Int) ≠ 0 := by
    intro h
    have h2 : Int.gcd x y = 0 := by omega
    rw [Int.gcd_eq_zero_iff] at h2
    omega
  refine ⟨_, _, low_ev y.toNat k x y x y hx (by omega) (by omega) (by omega) (by omega), ?_⟩
  unfold impl_fraction.f impl_gcd.f
  rw [gcd_ev y.toNat k' x y hx hx2 (by omega) hy2 (by omega) (by omega)]
  simp only [Option.bind_some]
  rw [if_neg hg]

theorem frac_ev (k : Nat) (x y : Int) (hx : 0 ≤ x) (hx2 : x ≤ 1000000000000000) (hy : 0 < y) (hy2 : y ≤ 1000000000000000) (hk : y < k) :
    ∃ a b : Int, spec_clLow.f k x y = some (a, b) ∧ impl_fraction.f k x y = some (a, b, true) := frac_ev2 k k x y hx hx2 hy hy2 hk hk


theorem pole_spec (a b : Int) : spec_swPole.f a b = some (decide ((1 ≤ a ∧ a ≤ 500) ∧ (1 ≤ b ∧ b ≤ 200))) := by
  simp only [spec_swPole.f, in_eq, Option.bind_some, decide_eq_true_eq]
  by_cases h : 1 ≤ a ∧ a ≤ 500 <;> simp [h]

theorem pole_impl (a b : Int) : impl_isPole.f a b = some (decide ((1 ≤ a ∧ a ≤ 500) ∧ (1 ≤ b ∧ b ≤ 200))) := by
  simp only [impl_isPole.f, impl_isPlace.f, impl_isHigh.f, within_eq, Option.bind_some, decide_eq_true_eq]
  by_cases h : 1 ≤ a ∧ a ≤ 500 <;> simp [h]


theorem both_spec (l a b : Int) : spec_swBoth.f l a b = some (decide ((2 ≤ l ∧ l ≤ 200) ∧ ((1 ≤ a ∧ a ≤ 500) ∧ (1 ≤ b ∧ b ≤ 200)) ∧ b < l)) := by
  simp only [spec_swBoth.f, spec_swLamp.f, pole_spec, in_eq, Option.bind_some, decide_eq_true_eq]
  by_cases h : 2 ≤ l ∧ l ≤ 200 <;> by_cases h2 : ((1 ≤ a ∧ a ≤ 500) ∧ (1 ≤ b ∧ b ≤ 200)) <;> simp [h, h2]


theorem both_impl (l a b : Int) : impl_isPoleOf.f l a b = some (decide ((2 ≤ l ∧ l ≤ 200) ∧ ((1 ≤ a ∧ a ≤ 500) ∧ (1 ≤ b ∧ b ≤ 200)) ∧ b < l)) := by
  simp only [impl_isPoleOf.f, impl_isLamp.f, pole_impl, within_eq, Option.bind_some, decide_eq_true_eq]
  by_cases h : 2 ≤ l ∧ l ≤ 200 <;> by_cases h2 : ((1 ≤ a ∧ a ≤ 500) ∧ (1 ≤ b ∧ b ≤ 200)) <;> simp [h, h2]



def conv (p : S63) : S61 := ⟨p.f0, p.f1⟩

theorem toPoleS_l (b : List S63) : ∀ (a : List S63), (a ++ b).length ≤ 1000000000 → Ev (fun k => laws_toPoleS.l0 k (a ++ b) (a.map conv ++ List.replicate b.length z61) (a.length : Int)) ((a ++ b).map conv) := by
  induction b with
  | nil =>
    intro a h
    refine Ev.step (f := fun _ => some ((a ++ []).map conv)) (fun k => ?_) (Ev.now _)
    simp only [laws_toPoleS.l0]
    rw [if_neg (by simp)]
    simp
  | cons p b ih =>
    intro a h
    have ih2 := ih (a ++ [p]) (by simpa using h)
    simp only [List.length_append, List.length_cons] at h
    rw [List.append_assoc, List.singleton_append] at ih2
    refine Ev.step (fun k => ?_) ih2
    simp only [laws_toPoleS.l0, laws_toPole.f, Option.bind_some]
    rw [if_pos (by simp only [List.length_append, List.length_cons]; omega), if_pos (by omega), if_pos (by simp only [List.length_append, List.length_map, List.length_replicate, List.length_cons]; omega), wrap_id (x := (a.length : Int) + 1) (by omega) (by omega)]
    have e1 : rd_T63 (a ++ p :: b) (a.length : Int) = p := by
      unfold rd_T63
      simp
    rw [e1]
    have e2 : (a.map conv ++ List.replicate (p :: b).length z61).set ((a.length : Int)).toNat (⟨p.f0, p.f1⟩ : S61) = (a ++ [p]).map conv ++ List.replicate b.length z61 := by
      rw [Int.toNat_natCast, List.set_append_right _ _ (by simp)]
      simp [List.replicate_succ, conv]
    rw [e2]
    simp

theorem toPoleS_ev (l : List S63) (h : l.length ≤ 1000000000) : Ev (fun k => laws_toPoleS.f k l) (l.map conv) := by
  refine Ev.congr (fun k => ?_) (toPoleS_l l [] (by simpa using h))
  unfold laws_toPoleS.f
  rw [if_pos (by omega), if_pos (by omega)]
  simp

theorem szPoleS_ev (l : List S63) (h : l.length * 16 ≤ 140737488351232) : laws_szPoleS.f l 1048576 = some (if (1048576 - (l.length : Int)) < 0 then -1 else 1048576 - (l.length : Int)) := by
  unfold laws_szPoleS.f
  rw [wrap_id (by omega) (by omega)]
  by_cases c : 1048576 - (l.length : Int) < 0
  · rw [if_pos c, if_pos c]
  · rw [if_neg c, if_neg c]


theorem eqPoleS_l (n : Nat) : ∀ (l : List S61) (i : Int), 0 ≤ i → (l.length : Int) - i = n → l.length ≤ 1000000000000 → Ev (fun k => laws_eqPoleS.l0 k l l i) true := by
  induction n with
  | zero =>
    intro l i h0 h1 h2
    refine Ev.step (f := fun _ => some true) (fun k => ?_) (Ev.now true)
    simp only [laws_eqPoleS.l0]
    rw [if_neg (by omega)]
  | succ n ih =>
    intro l i h0 h1 h2
    refine Ev.step (f := fun k => laws_eqPoleS.l0 k l l (i + 1)) (fun k => ?_) (ih l (i + 1) (by omega) (by omega) h2)
    simp only [laws_eqPoleS.l0, laws_eqPole.f]
    rw [if_pos (show i < (l.length : Int) by omega), if_pos h0, wrap_id (x := i + 1) (by omega) (by omega)]
    simp
    try omega

theorem eqPoleS_ev (l : List S61) (h : l.length ≤ 1000000000000) : Ev (fun k => laws_eqPoleS.f k l l) true := by
  refine Ev.congr (f := fun k => laws_eqPoleS.l0 k l l 0) (fun k => ?_) (eqPoleS_l l.length l 0 (by omega) (by omega) h)
  unfold laws_eqPoleS.f
  rw [if_pos rfl]

/-- What both sides take for poles of a lamp. -/
def OkRow (l : List S61) (j : Int) : Prop := ((1 ≤ (rd_T61 l j).f0 ∧ (rd_T61 l j).f0 ≤ 500) ∧ (1 ≤ (rd_T61 l j).f1 ∧ (rd_T61 l j).f1 ≤ 200)) ∧ (0 < j → (rd_T61 l (j - 1)).f0 < (rd_T61 l j).f0)
def Good (m : Int) (l : List S61) : Prop := (2 ≤ m ∧ m ≤ 200) ∧ (1 ≤ (l.length : Int) ∧ (l.length : Int) ≤ 6) ∧ ∀ j : Int, 0 ≤ j → j < l.length → OkRow l j ∧ (rd_T61 l j).f1 < m

theorem row_l (n : Nat) : ∀ (l : List S61) (i : Int), 0 ≤ i → (l.length : Int) - i = n → l.length ≤ 1000000000 → ∃ b : Bool, Ev (fun k => spec_swRow.l0 k l l (l.length : Int) i) b ∧ (b = true ↔ ∀ j, i ≤ j → j < l.length → OkRow l j) := by
  induction n with
  | zero =>
    intro l i h0 h1 h2
    refine ⟨true, Ev.step (f := fun _ => some true) (fun k => ?_) (Ev.now _), by simp; intro j _ _; omega⟩
    simp only [spec_swRow.l0]
    rw [if_neg (by omega)]
  | succ n ih =>
    intro l i h0 h1 h2
    obtain ⟨b, hb, hi⟩ := ih l (i + 1) (by omega) (by omega) h2
    have hlt : i < (l.length : Int) := by omega
    by_cases c : (1 ≤ (rd_T61 l i).f0 ∧ (rd_T61 l i).f0 ≤ 500) ∧ (1 ≤ (rd_T61 l i).f1 ∧ (rd_T61 l i).f1 ≤ 200)
    · by_cases c2 : 0 < i ∧ (rd_T61 l i).f0 ≤ (rd_T61 l (i - 1)).f0
      · refine ⟨false, Ev.step (f := fun _ => some false) (fun k => ?_) (Ev.now _), ?_⟩
        · simp only [spec_swRow.l0, pole_spec, Option.bind_some, decide_eq_true_eq]
          rw [if_pos hlt, if_pos h0, if_pos hlt, if_pos c, if_pos c2.1, wrap_id (x := i - 1) (by omega) (by omega), if_pos (by omega), if_pos (by omega), if_pos c2.2]
        · simp only [Bool.false_eq_true, false_iff]
          intro H
          have := (H i (by omega) hlt).2 c2.1
          omega
      · refine ⟨b, Ev.step (fun k => ?_) hb, ?_⟩
        · simp only [spec_swRow.l0, pole_spec, Option.bind_some, decide_eq_true_eq]
          rw [if_pos hlt, if_pos h0, if_pos hlt, if_pos c, wrap_id (x := i + 1) (by omega) (by omega)]
          by_cases c3 : i > 0
          · rw [if_pos c3, wrap_id (x := i - 1) (by omega) (by omega), if_pos (by omega), if_pos (by omega), if_neg (fun h => c2 ⟨c3, h⟩)]
          · rw [if_neg c3]
        · rw [hi]
          constructor
          · intro H j h3 h4
            by_cases e : j = i
            · subst e
              exact ⟨c, fun hp => by omega⟩
            · exact H j (by omega) h4
          · intro H j h3 h4
            exact H j (by omega) h4
    · refine ⟨false, Ev.step (f := fun _ => some false) (fun k => ?_) (Ev.now _), ?_⟩
      · simp only [spec_swRow.l0, pole_spec, Option.bind_some, decide_eq_true_eq]
        rw [if_pos hlt, if_pos h0, if_pos hlt, if_neg c]
      · simp only [Bool.false_eq_true, false_iff]
        intro H
        exact c (H i (by omega) hlt).1

theorem low_l (m : Int) (n : Nat) : ∀ (l : List S61) (i : Int), 0 ≤ i → (l.length : Int) - i = n → l.length ≤ 1000000000 → ∃ b : Bool, Ev (fun k => spec_swGood.l0 k m l (l.length : Int) i) b ∧ (b = true ↔ ∀ j, i ≤ j → j < l.length → (rd_T61 l j).f1 < m) := by
  induction n with
  | zero =>
    intro l i h0 h1 h2
    refine ⟨true, Ev.step (f := fun _ => some true) (fun k => ?_) (Ev.now _), by simp; intro j _ _; omega⟩
    simp only [spec_swGood.l0]
    rw [if_neg (by omega)]
  | succ n ih =>
    intro l i h0 h1 h2
    obtain ⟨b, hb, hi⟩ := ih l (i + 1) (by omega) (by omega) h2
    have hlt : i < (l.length : Int) := by omega
    by_cases c : (rd_T61 l i).f1 ≥ m
    · refine ⟨false, Ev.step (f := fun _ => some false) (fun k => ?_) (Ev.now _), ?_⟩
      · simp only [spec_swGood.l0]
        rw [if_pos hlt, if_pos h0, if_pos hlt, if_pos c]
      · simp only [Bool.false_eq_true, false_iff]
        intro H
        have := H i (by omega) hlt
        omega
    · refine ⟨b, Ev.step (fun k => ?_) hb, ?_⟩
      · simp only [spec_swGood.l0]
        rw [if_pos hlt, if_pos h0, if_pos hlt, if_neg c, wrap_id (x := i + 1) (by omega) (by omega)]
      · rw [hi]
        constructor
        · intro H j h3 h4
          by_cases e : j = i
          · subst e; omega
          · exact H j (by omega) h4
        · intro H j h3 h4
          exact H j (by omega) h4

theorem are_l (m : Int) (n : Nat) : ∀ (l : List S61) (i : Int), 0 ≤ i → (l.length : Int) - i = n → l.length ≤ 1000000000 →
    ∃ b : Bool, Ev (fun k => impl_ArePoles.l0 k m l l (l.length : Int) i) b ∧ (b = true ↔ (∀ j, i ≤ j → j < l.length → (2 ≤ m ∧ m ≤ 200) ∧ OkRow l j ∧ (rd_T61 l j).f1 < m) ∧ (1 ≤ (l.length : Int) ∧ (l.length : Int) ≤ 6)) := by
  induction n with
  | zero =>
    intro l i h0 h1 h2
    refine ⟨decide (1 ≤ (l.length : Int) ∧ (l.length : Int) ≤ 6), Ev.step (f := fun _ => some (decide (1 ≤ (l.length : Int) ∧ (l.length : Int) ≤ 6))) (fun k => ?_) (Ev.now _), ?_⟩
    · simp only [impl_ArePoles.l0, within_eq, Option.bind_some]
      rw [if_neg (by omega)]
    · rw [decide_eq_true_eq]
      exact ⟨fun h => ⟨fun j _ _ => by omega, h⟩, fun h => h.2⟩
  | succ n ih =>
    intro l i h0 h1 h2
    obtain ⟨b, hb, hi⟩ := ih l (i + 1) (by omega) (by omega) h2
    have hlt : i < (l.length : Int) := by omega
    by_cases c : (2 ≤ m ∧ m ≤ 200) ∧ ((1 ≤ (rd_T61 l i).f0 ∧ (rd_T61 l i).f0 ≤ 500) ∧ (1 ≤ (rd_T61 l i).f1 ∧ (rd_T61 l i).f1 ≤ 200)) ∧ (rd_T61 l i).f1 < m
    · by_cases c2 : 0 < i ∧ (rd_T61 l i).f0 ≤ (rd_T61 l (i - 1)).f0
      · refine ⟨false, Ev.step (f := fun _ => some false) (fun k => ?_) (Ev.now _), ?_⟩
        · simp only [impl_ArePoles.l0, both_impl, Option.bind_some, decide_eq_true_eq]
          rw [if_pos hlt, if_pos h0, if_pos hlt, if_pos c, if_pos c2.1, wrap_id (x := i - 1) (by omega) (by omega), if_pos (by omega), if_pos (by omega), if_pos (show (rd_T61 l (i - 1)).f0 ≥ (rd_T61 l i).f0 from c2.2)]
        · simp only [Bool.false_eq_true, false_iff]
          intro H
          have := (H.1 i (by omega) hlt).2.1.2 c2.1
          omega
      · refine ⟨b, Ev.step (fun k => ?_) hb, ?_⟩
        · simp only [impl_ArePoles.l0, both_impl, Option.bind_some, decide_eq_true_eq]
          rw [if_pos hlt, if_pos h0, if_pos hlt, if_pos c, wrap_id (x := i + 1) (by omega) (by omega)]
          by_cases c3 : i > 0
          · rw [if_pos c3, wrap_id (x := i - 1) (by omega) (by omega), if_pos (by omega), if_pos (by omega), if_neg (fun h => c2 ⟨c3, h⟩)]
          · rw [if_neg c3]
        · rw [hi]
          constructor
          · intro H
            refine ⟨fun j h3 h4 => ?_, H.2⟩
            by_cases e : j = i
            · subst e
              exact ⟨c.1, ⟨c.2.1, fun hp => by omega⟩, c.2.2⟩
            · exact H.1 j (by omega) h4
          · intro H
            exact ⟨fun j h3 h4 => H.1 j (by omega) h4, H.2⟩
    · refine ⟨false, Ev.step (f := fun _ => some false) (fun k => ?_) (Ev.now _), ?_⟩
      · simp only [impl_ArePoles.l0, both_impl, Option.bind_some, decide_eq_true_eq]
        rw [if_pos hlt, if_pos h0, if_pos hlt, if_neg c]
      · simp only [Bool.false_eq_true, false_iff]
        intro H
        have := H.1 i (by omega) hlt
        exact c ⟨this.1, this.2.1.1, this.2.2⟩

/-- Both sides tell alike whether there are poles of a lamp. -/
theorem good_ev (m : Int) (l : List S61) (h : l.length ≤ 1000000000) : ∃ b : Bool, Ev (fun k => spec_swGood.f k m l) b ∧ Ev (fun k => impl_ArePoles.f k m l) b ∧ (b = true ↔ Good m l) := by
  obtain ⟨b1, e1, i1⟩ := are_l m l.length l 0 (by omega) (by omega) h
  obtain ⟨b2, e2, i2⟩ := row_l l.length l 0 (by omega) (by omega) h
  obtain ⟨b3, e3, i3⟩ := low_l m l.length l 0 (by omega) (by omega) h
  have i1' : b1 = true ↔ Good m l := by
    rw [i1]
    constructor
    · intro H
      have h0 := H.1 0 (by omega) (by omega)
      exact ⟨h0.1, H.2, fun j hj hj2 => (H.1 j hj hj2).2⟩
    · intro H
      exact ⟨fun j hj hj2 => ⟨H.1, H.2.2 j hj hj2⟩, H.2.1⟩
  refine ⟨b1, ?_, e1, i1'⟩
  obtain ⟨K2, k2⟩ := e2
  obtain ⟨K3, k3⟩ := e3
  replace k2 : ∀ k, K2 ≤ k → spec_swRow.l0 k l l (l.length : Int) 0 = some b2 := k2
  replace k3 : ∀ k, K3 ≤ k → spec_swGood.l0 k m l (l.length : Int) 0 = some b3 := k3
  refine ⟨K2 + K3 + 5, fun k hk => ?_⟩
  obtain ⟨k, rfl⟩ : ∃ m, k = m + 1 := ⟨k - 1, by omega⟩
  simp only [spec_swGood.f, spec_swLamp.f, spec_swRow.f, in_eq, Option.bind_some, decide_eq_true_eq]
  by_cases c1 : 2 ≤ m ∧ m ≤ 200
  · rw [if_pos c1]
    by_cases c2 : 1 ≤ (l.length : Int) ∧ (l.length : Int) ≤ 6
    · rw [if_pos c2, k2 (k + 1) (by omega)]
      simp only [Option.bind_some, spec_swGood.j0]
      cases b2
      · rw [if_pos (show (!false) = true from rfl)]
        have : b1 = false := by
          rw [← Bool.not_eq_true, i1']
          intro H
          exact absurd (i2.2 (fun j hj hj2 => (H.2.2 j hj hj2).1)) (by simp)
        rw [this]
      · rw [if_neg (show ¬ (!true) = true by simp), k3 k (by omega)]
        congr 1
        rw [Bool.eq_iff_iff, i3, i1']
        constructor
        · intro H
          exact ⟨c1, c2, fun j hj hj2 => ⟨i2.1 rfl j hj hj2, H j hj hj2⟩⟩
        · intro H j hj hj2
          exact (H.2.2 j hj hj2).2
    · rw [if_neg c2]
      simp only [Option.bind_some, spec_swGood.j0]
      rw [if_pos (show (!false) = true from rfl)]
      have : b1 = false := by
        rw [← Bool.not_eq_true, i1']
        intro H
        exact c2 H.2.1
      rw [this]
  · rw [if_neg c1]
    simp only [spec_swGood.j0]
    rw [if_pos trivial]
    have : b1 = false := by
      rw [← Bool.not_eq_true, i1']
      intro H
      exact c1 H.1
    rw [this]

theorem end_ev (m : Int) (l : List S61) (j : Int) (hg : Good m l) (h0 : 0 ≤ j) (h1 : j < l.length) :
    ∃ p q : Int, (∀ k, 200000 ≤ k → spec_ShadowEnd.f k m (rd_T61 l j).f0 (rd_T61 l j).f1 = some (p, q, true)) ∧ (∀ k, 200000 ≤ k → impl_ShadowEnd.f k m (rd_T61 l j).f0 (rd_T61 l j).f1 = some (p, q, true)) := by
  obtain ⟨⟨hp, _⟩, hlt⟩ := hg.2.2 j h0 h1
  have hm := hg.1
  generalize (rd_T61 l j).f0 = a at *
  generalize (rd_T61 l j).f1 = b at *
  have m1 := mulb (a := a) (b := m) (A := 500) (B := 200) (by omega) (by omega) (by omega) (by omega)
  have hb : (2 ≤ m ∧ m ≤ 200) ∧ ((1 ≤ a ∧ a ≤ 500) ∧ (1 ≤ b ∧ b ≤ 200)) ∧ b < m := ⟨hm, hp, hlt⟩
  have hgne : (Int.gcd (a * m) (m - b) : Int) ≠ 0 := by
    intro h
    have h2 : Int.gcd (a * m) (m - b) = 0 := by omega
    rw [Int.gcd_eq_zero_iff] at h2
    omega
  refine ⟨wrap64 (Int.tdiv (a * m) (Int.gcd (a * m) (m - b) : Int)), wrap64 (Int.tdiv (m - b) (Int.gcd (a * m) (m - b) : Int)), fun k hk => ?_, fun k hk => ?_⟩
  · simp only [spec_ShadowEnd.f, both_spec, Option.bind_some, decide_eq_true_eq]
    rw [if_pos hb, wrap_id (x := a * m) (by omega) (by omega), wrap_id (x := m - b) (by omega) (by omega)]
    unfold spec_clLow.f
    rw [low_ev 200 k (a * m) (m - b) (a * m) (m - b) (by omega) (by omega) (by omega) (by omega) (by omega)]
    rfl
  · simp only [impl_ShadowEnd.f, both_impl, Option.bind_some, decide_eq_true_eq]
    rw [if_pos hb, wrap_id (x := a * m) (by omega) (by omega), wrap_id (x := m - b) (by omega) (by omega)]
    unfold impl_fraction.f impl_gcd.f
    rw [gcd_ev 200 k (a * m) (m - b) (by omega) (by omega) (by omega) (by omega) (by omega) (by omega)]
    simp only [Option.bind_some]
    rw [if_neg hgne]
    rfl

theorem far_l (m : Int) (l : List S61) (hl : l.length ≤ 1000000000) (hg : Good m l) (n : Nat) : ∀ (best i : Int), 0 ≤ best → best < l.length → 0 ≤ i → (l.length : Int) - i = n →
    ∃ p q : Int, Ev (fun k => spec_FarthestDark.l0 k m l best l (l.length : Int) i) (p, q, true) ∧ Ev (fun k => impl_FarthestDark.l0 k m l (l.length : Int) i (rd_T61 l best).f0 (rd_T61 l best).f1) (p, q, true) := by
  induction n with
  | zero =>
    intro best i h0 h1 h2 h3
    obtain ⟨p, q, e1, e2⟩ := end_ev m l best hg h0 h1
    refine ⟨p, q, stepK 200000 (f := fun _ => some (p, q, true)) (fun k hk => ?_) (Ev.now _), stepK 200000 (f := fun _ => some (p, q, true)) (fun k hk => ?_) (Ev.now _)⟩
    · simp only [spec_FarthestDark.l0]
      rw [if_neg (by omega), if_pos h0, if_pos h1, e1 k hk]
      rfl
    · simp only [impl_FarthestDark.l0]
      rw [if_neg (by omega), e2 k hk]
      rfl
  | succ n ih =>
    intro best i h0 h1 h2 h3
    have hlt : i < (l.length : Int) := by omega
    by_cases c : (wrap64 (((rd_T61 l i).f0) * (wrap64 (m - ((rd_T61 l best).f1))))) > (wrap64 (((rd_T61 l best).f0) * (wrap64 (m - ((rd_T61 l i).f1)))))
    · obtain ⟨p, q, e1, e2⟩ := ih i (i + 1) h2 hlt (by omega) (by omega)
      refine ⟨p, q, Ev.step (fun k => ?_) e1, Ev.step (fun k => ?_) e2⟩
      · simp only [spec_FarthestDark.l0]
        rw [if_pos hlt, if_pos h2, if_pos hlt, if_pos h0, if_pos h1, if_pos c, wrap_id (x := i + 1) (by omega) (by omega)]
      · simp only [impl_FarthestDark.l0]
        rw [if_pos hlt, if_pos h2, if_pos hlt, if_pos c, wrap_id (x := i + 1) (by omega) (by omega)]
    · obtain ⟨p, q, e1, e2⟩ := ih best (i + 1) h0 h1 (by omega) (by omega)
      refine ⟨p, q, Ev.step (fun k => ?_) e1, Ev.step (fun k => ?_) e2⟩
      · simp only [spec_FarthestDark.l0]
        rw [if_pos hlt, if_pos h2, if_pos hlt, if_pos h0, if_pos h1, if_neg c, wrap_id (x := i + 1) (by omega) (by omega)]
      · simp only [impl_FarthestDark.l0]
        rw [if_pos hlt, if_pos h2, if_pos hlt, if_neg c, wrap_id (x := i + 1) (by omega) (by omega)]

theorem far_ev (m : Int) (l : List S61) (hl : l.length ≤ 1000000000) : ∃ (p q : Int) (o : Bool), Ev (fun k => spec_FarthestDark.f k m l) (p, q, o) ∧ Ev (fun k => impl_FarthestDark.f k m l) (p, q, o) := by
  obtain ⟨b, ⟨K1, h1⟩, ⟨K2, h2⟩, hb⟩ := good_ev m l hl
  cases b
  · refine ⟨0, 0, false, ⟨K1, fun k hk => ?_⟩, ⟨K2, fun k hk => ?_⟩⟩
    · simp [spec_FarthestDark.f, h1 k hk]
    · simp [impl_FarthestDark.f, h2 k hk]
  · have hg := hb.1 rfl
    have hpos : 0 < (l.length : Int) := by have := hg.2.1; omega
    obtain ⟨p, q, e1, e2⟩ := far_l m l hl hg l.length 0 0 (by omega) hpos (by omega) (by omega)
    refine ⟨p, q, true, congrK K1 (fun k hk => ?_) e1, congrK K2 (fun k hk => ?_) e2⟩
    · simp [spec_FarthestDark.f, h1 k hk]
    · simp only [impl_FarthestDark.f, h2 k hk, Option.bind_some, if_true]
      rw [if_pos hpos]
end FnExactFarthestDarkL
open FnExactFarthestDarkL

theorem FnExactFarthestDark (m : Int) (l : List S63) (_ : (Lit.int .i64 m).wf = true) (h : l.length * 16 ≤ 140737488351232) : ∃ k, laws_FnExactFarthestDark.f k m l = some true := by
  have hz := szPoleS_ev l h
  by_cases c : 1048576 - (l.length : Int) < 0
  · refine ⟨1, ?_⟩
    unfold laws_FnExactFarthestDark.f
    rw [hz, if_pos c]
    simp
  · obtain ⟨K1, h1⟩ := toPoleS_ev l (by omega)
    obtain ⟨p, q, o, ⟨K2, h2⟩, ⟨K3, h3⟩⟩ := far_ev m (l.map conv) (by simp; omega)
    obtain ⟨K4, h4⟩ := eqPoleS_ev (l.map conv) (by simp; omega)
    refine ⟨K1 + K2 + K3 + K4 + 10, ?_⟩
    rw [if_neg c] at hz
    simp (disch := omega) [laws_FnExactFarthestDark.f, laws_FnExactFarthestDark.j0, hz, h1, h2, h3, h4, c]

end Go.Proofs.Ytmggonkdlhghjaa.Pure
