/- Plain laws on what FnShadowsDarkOfAll reaches: poles, hiding, lowest terms. No condition beyond those that each theorem names. -/
import Derived.Test.YtkhhlnpiogfofaaGreatDoorSD3
import Derived.Test.YtkhhlnpiogfofaaGreatDoorSD5
import Derived.Test.YtkhhlnpiogfofaaGreatDoorSD6
import Derived.Test.YtkhhlnpiogfofaaGreatDoorSD7
import Derived.Test.YtkhhlnpiogfofaaGreatDoorSD8
import Derived.Test.YtkhhlnpiogfofaaGreatDoorSD9
namespace Go.Proofs.YtkhhlnpiogfofaaGreatDoor.SDBase
open Go.RowKit Go.Proofs.YtkhhlnpiogfofaaGreatDoor.PFnShadowsDarkOfAll Go.Proofs.YtkhhlnpiogfofaaGreatDoorW.PrintWords Go.Proofs.YtkhhlnpiogfofaaGreatDoorW.PrintLast Go.Proofs.YtkhhlnpiogfofaaGreatDoorW.PrintMore Go.Proofs.YtkhhlnpiogfofaaGreatDoor.Given
set_option linter.unusedVariables false
set_option linter.unusedSimpArgs false

theorem wrap_id {x : Int} (h0 : -9223372036854775808 ≤ x) (h1 : x ≤ 9223372036854775807) : wrap64 x = x := by unfold wrap64; omega

theorem in_eq (a b c : Int) : spec_l1In.f a b c = some (decide (b ≤ a ∧ a ≤ c)) := by
 unfold spec_l1In.f
 by_cases h : a ≥ b
 ·rw [if_pos h]; simp [h]
 ·rw [if_neg h]; simp; omega

theorem within_eq (a b c : Int) : impl_within.f a b c = some (decide (b ≤ a ∧ a ≤ c)) := by
 unfold impl_within.f
 by_cases h : a ≥ b
 ·rw [if_pos h]; simp [h]
 ·rw [if_neg h]; simp; omega

theorem mulb {a b A B : Int} (ha : 0 ≤ a) (ha2 : a ≤ A) (hb : 0 ≤ b) (hb2 : b ≤ B) : 0 ≤ a * b ∧ a * b ≤ A * B :=
 ⟨Int.mul_nonneg ha hb, Int.mul_le_mul ha2 hb2 hb (by omega)⟩


theorem stepK {α : Type} {g f : Nat → Option α} {r : α} (K0 : Nat) (h : ∀ k, K0 ≤ k → g (k + 1) = f k) (hf : Ev f r) : Ev g r := by
 obtain ⟨K, hK⟩ := hf
 refine ⟨K + K0 + 1, fun k hk => ?_⟩
 obtain ⟨k, rfl⟩ : ∃ m, k = m + 1 := ⟨k - 1, by omega⟩
 rw [h k (by omega), hK k (by omega)]
theorem congrK {α : Type} {g f : Nat → Option α} {r : α} (K0 : Nat) (h : ∀ k, K0 ≤ k → g k = f k) (hf : Ev f r) : Ev g r := by
 obtain ⟨K, hK⟩ := hf
 exact ⟨K + K0, fun k hk => by rw [h k (by omega), hK k (by omega)]⟩

theorem bind_eq {α β : Type} {g : Option α} {a : α} (h : g = some a) (f : α → Option β) : g.bind f = f a := by rw [h]; rfl


theorem gcd_step {x y : Int} (hx : 0 ≤ x) (hy : 0 < y) : Int.gcd y (Int.tmod x y) = Int.gcd x y := by
 rw [Int.tmod_eq_emod_of_nonneg hx]
 obtain ⟨a, rfl⟩ := Int.eq_ofNat_of_zero_le hx
 obtain ⟨b, rfl⟩ := Int.eq_ofNat_of_zero_le (Int.le_of_lt hy)
 rw [← Int.natCast_emod, Int.gcd_natCast_natCast, Int.gcd_natCast_natCast, Nat.gcd_comm a b, Nat.gcd_rec b a, Nat.gcd_comm]

theorem tmod_bd {x y : Int} (hx : 0 ≤ x) (hy : 0 < y) : 0 ≤ Int.tmod x y ∧ Int.tmod x y < y := by
 rw [Int.tmod_eq_emod_of_nonneg hx]
 exact ⟨Int.emod_nonneg _ (by omega), Int.emod_lt_of_pos _ hy⟩


theorem gcd_ev (n : Nat) : ∀ (k : Nat) (x y : Int), 0 ≤ x → x ≤ 1000000000000000 → 0 ≤ y → y ≤ 1000000000000000 → y ≤ n → n < k → impl_gcd.l0 k x y = some (Int.gcd x y : Int) := by
 induction n with
 | zero =>
  intro k x y hx hx2 hy hy2 hn hk
  obtain ⟨k, rfl⟩ : ∃ m, k = m + 1 := ⟨k - 1, by omega⟩
  obtain rfl : y = 0 := by omega
  simp only [impl_gcd.l0]
  rw [if_pos trivial, wrap_id (by omega) (by omega)]
  congr 1
  unfold mx
  rw [if_neg (by omega), Int.gcd_zero_right]
  omega
 | succ n ih =>
  intro k x y hx hx2 hy hy2 hn hk
  obtain ⟨k, rfl⟩ : ∃ m, k = m + 1 := ⟨k - 1, by omega⟩
  simp only [impl_gcd.l0]
  by_cases h : y = 0
  ·subst h
   rw [if_pos rfl, wrap_id (by omega) (by omega)]
   congr 1
   unfold mx
   rw [if_neg (by omega), Int.gcd_zero_right]
   omega
  ·have hp : 0 < y := by omega
   have hb := tmod_bd hx hp
   rw [if_neg h, ih k y (Int.tmod x y) hy hy2 hb.1 (by omega) (by omega) (by omega), gcd_step hx hp]
theorem low_ev (n : Nat) : ∀ (k : Nat) (p q x y : Int), 0 ≤ x → 0 ≤ y → y ≤ n → n < k → 0 < x + y →
  spec_clLow.l0 k p q x y = some (wrap64 (Int.tdiv p (Int.gcd x y : Int)), wrap64 (Int.tdiv q (Int.gcd x y : Int))) := by
 induction n with
 | zero =>
  intro k p q x y hx hy hn hk hs
  obtain ⟨k, rfl⟩ : ∃ m, k = m + 1 := ⟨k - 1, by omega⟩
  obtain rfl : y = 0 := by omega
  simp only [spec_clLow.l0]
  rw [if_neg (by omega), if_neg (by omega), Int.gcd_zero_right]
  have e : (x.natAbs : Int) = x := by omega
  rw [e]
 | succ n ih =>
  intro k p q x y hx hy hn hk hs
  obtain ⟨k, rfl⟩ : ∃ m, k = m + 1 := ⟨k - 1, by omega⟩
  simp only [spec_clLow.l0]
  by_cases h : y = 0
  ·subst h
   rw [if_neg (by omega), if_neg (by omega), Int.gcd_zero_right]
   have e : (x.natAbs : Int) = x := by omega
   rw [e]
  ·have hp : 0 < y := by omega
   have hb := tmod_bd hx hp
   rw [if_pos hp, if_neg h, ih k p q y (Int.tmod x y) hy hb.1 (by omega) (by omega) (by omega), gcd_step hx hp]
/-- What lowest terms are: both numbers by one common measure. -/
theorem cofactors {g x y : Int} (hg : g = (Int.gcd x y : Int)) (hx : 0 ≤ x) (hy : 0 < y) :
  ∃ p q : Int, 0 < g ∧ x = g * p ∧ y = g * q ∧ 0 ≤ p ∧ 1 ≤ q ∧ p ≤ x ∧ q ≤ y ∧ Int.tdiv x g = p ∧ Int.tdiv y g = q := by
 have hg0 : Int.gcd x y ≠ 0 := by
  intro h
  rw [Int.gcd_eq_zero_iff] at h
  omega
 have hgp : 0 < g := by omega
 obtain ⟨p, hp⟩ : g ∣ x := hg ▸ Int.gcd_dvd_left ..
 obtain ⟨q, hq⟩ : g ∣ y := hg ▸ Int.gcd_dvd_right ..
 have hp0 : 0 ≤ p := by
  by_cases h : 0 ≤ p
  ·exact h
  ·have := Int.mul_lt_mul_of_pos_left (show p < 0 by omega) hgp
   rw [Int.mul_zero] at this
   omega
 have hq1 : 1 ≤ q := by
  by_cases h : 0 < q
  ·omega
  ·have := Int.mul_nonneg (Int.le_of_lt hgp) (show 0 ≤ -q by omega)
   rw [Int.mul_neg] at this
   omega
 have hpx : p ≤ x := by
  have := Int.mul_le_mul_of_nonneg_right (show 1 ≤ g by omega) hp0
  rw [Int.one_mul] at this
  omega
 have hqy : q ≤ y := by
  have := Int.mul_le_mul_of_nonneg_right (show 1 ≤ g by omega) (show 0 ≤ q by omega)
  rw [Int.one_mul] at this
  omega
 exact ⟨p, q, hgp, hp, hq, hp0, hq1, hpx, hqy, Int.tdiv_eq_of_eq_mul_right (by omega) hp, Int.tdiv_eq_of_eq_mul_right (by omega) hq⟩

theorem low_sem (k : Nat) (x y : Int) (hx : 0 ≤ x) (hx2 : x ≤ 1000000000000000) (hy : 0 < y) (hy2 : y ≤ 1000000000000000) (hk : y < k) :
  ∃ g p q : Int, 0 < g ∧ x = g * p ∧ y = g * q ∧ 0 ≤ p ∧ 1 ≤ q ∧ p ≤ x ∧ q ≤ y ∧ g = (Int.gcd x y : Int) ∧ spec_clLow.f k x y = some (p, q) := by
 obtain ⟨p, q, h1, h2, h3, h4, h5, h6, h7, h8, h9⟩ := cofactors rfl hx hy
 refine ⟨_, p, q, h1, h2, h3, h4, h5, h6, h7, rfl, ?_⟩
 unfold spec_clLow.f
 rw [low_ev y.toNat k x y x y hx (by omega) (by omega) (by omega) (by omega), h8, h9, wrap_id (by omega) (by omega), wrap_id (by omega) (by omega)]


/-- The top of q stands below the line in lowest terms just where it stands below it. -/
theorem hides_iff {g p q x y c : Int} (hg : 0 < g) (hx : x = g * p) (hy : y = g * q) : c * q ≤ p ↔ c * y ≤ x := by
 rw [hx, hy]
 have e : c * (g * q) = g * (c * q) := by rw [← Int.mul_assoc, ← Int.mul_assoc, Int.mul_comm c g]
 rw [e]
 exact ⟨fun h => Int.mul_le_mul_of_nonneg_left h (by omega), fun h => Int.le_of_mul_le_mul_left h hg⟩

theorem hides_ev (l a b c d : Int) (hl : 2 ≤ l ∧ l ≤ 200) (ha : 1 ≤ a ∧ a ≤ 500) (hb : 1 ≤ b ∧ b < l) (hc : 1 ≤ c ∧ c ≤ 500) (hd : 1 ≤ d ∧ d < l) :
  ∃ o : Bool, (∀ k, 1000 ≤ k → spec_swHides.f k l a b c d = some o) ∧ impl_isHidden.f l a b c d = some o ∧ (o = true ↔ a < c ∧ d * a ≤ l * a - (l - b) * c) := by
 have m1 := mulb (a := l) (b := a) (A := 200) (B := 500) (by omega) (by omega) (by omega) (by omega)
 have m2 := mulb (a := l - b) (b := c) (A := 200) (B := 500) (by omega) (by omega) (by omega) (by omega)
 have m3 := mulb (a := d) (b := a) (A := 200) (B := 500) (by omega) (by omega) (by omega) (by omega)
 have m4 : 1 ≤ d * a := by
  have := Int.mul_le_mul (show 1 ≤ d by omega) (show 1 ≤ a by omega) (by omega) (by omega)
  omega
 have w1 := wrap_id (x := l * a) (by omega) (by omega)
 have w2 := wrap_id (x := l - b) (by omega) (by omega)
 have w3 := wrap_id (x := (l - b) * c) (by omega) (by omega)
 have w4 := wrap_id (x := l * a - (l - b) * c) (by omega) (by omega)
 have w5 := wrap_id (x := d * a) (by omega) (by omega)
 refine ⟨decide (a < c ∧ d * a ≤ l * a - (l - b) * c), fun k hk => ?_, ?_, by rw [decide_eq_true_eq]⟩
 ·simp only [spec_swHides.f, spec_swHeight.f, w1, w2, w3, w4]
  by_cases hz : l * a - (l - b) * c ≤ 0
  ·rw [if_pos hz]
   simp only [Option.bind_some]
   rw [wrap_id (x := d * 1) (by omega) (by omega)]
   by_cases hp : c > a
   ·rw [if_pos hp]
    congr 1
    rw [Bool.eq_iff_iff, decide_eq_true_eq, decide_eq_true_eq]
    omega
   ·rw [if_neg hp]
    congr 1
    symm
    rw [decide_eq_false_iff_not]
    omega
  ·rw [if_neg hz]
   obtain ⟨g, p, q, g0, gx, gy, p0, q0, px, qy, _, e⟩ := low_sem k (l * a - (l - b) * c) a (by omega) (by omega) (by omega) (by omega) (by omega)
   rw [e]
   simp only [Option.bind_some]
   have m5 := mulb (a := d) (b := q) (A := 200) (B := 500) (by omega) (by omega) (by omega) (by omega)
   rw [wrap_id (x := d * q) (by omega) (by omega)]
   have hi := hides_iff (c := d) g0 gx gy
   by_cases hp : c > a
   ·rw [if_pos hp]
    congr 1
    rw [Bool.eq_iff_iff, decide_eq_true_eq, decide_eq_true_eq, hi]
    exact ⟨fun x => ⟨hp, x⟩, fun x => x.2⟩
   ·rw [if_neg hp]
    congr 1
    symm
    rw [decide_eq_false_iff_not]
    omega
 ·simp only [impl_isHidden.f, w1, w2, w3, w4, w5]
  by_cases hp : c > a
  ·rw [if_pos hp]
   congr 1
   rw [Bool.eq_iff_iff, decide_eq_true_eq, decide_eq_true_eq]
   exact ⟨fun x => ⟨hp, x⟩, fun x => x.2⟩
  ·rw [if_neg hp]
   congr 1
   symm
   rw [decide_eq_false_iff_not]
   omega


theorem pole_spec (a b : Int) : spec_swPole.f a b = some (decide ((1 ≤ a ∧ a ≤ 500) ∧ (1 ≤ b ∧ b ≤ 200))) := by
 simp only [spec_swPole.f, in_eq, Option.bind_some, decide_eq_true_eq]
 by_cases h : 1 ≤ a ∧ a ≤ 500 <;> simp [h]

theorem pole_impl (a b : Int) : impl_isPole.f a b = some (decide ((1 ≤ a ∧ a ≤ 500) ∧ (1 ≤ b ∧ b ≤ 200))) := by
 simp only [impl_isPole.f, impl_isPlace.f, impl_isHigh.f, within_eq, Option.bind_some, decide_eq_true_eq]
 by_cases h : 1 ≤ a ∧ a ≤ 500 <;> simp [h]


theorem both_spec (l a b : Int) : spec_swBoth.f l a b = some (decide ((2 ≤ l ∧ l ≤ 200) ∧ ((1 ≤ a ∧ a ≤ 500) ∧ (1 ≤ b ∧ b ≤ 200)) ∧ b < l)) := by
 simp only [spec_swBoth.f, spec_swLamp.f, pole_spec, in_eq, Option.bind_some, decide_eq_true_eq]
 by_cases h : 2 ≤ l ∧ l ≤ 200 <;> by_cases h2 : ((1 ≤ a ∧ a ≤ 500) ∧ (1 ≤ b ∧ b ≤ 200)) <;> simp [h, h2]


theorem both_impl (l a b : Int) : impl_isPoleOf.f l a b = some (decide ((2 ≤ l ∧ l ≤ 200) ∧ ((1 ≤ a ∧ a ≤ 500) ∧ (1 ≤ b ∧ b ≤ 200)) ∧ b < l)) := by
 simp only [impl_isPoleOf.f, impl_isLamp.f, pole_impl, within_eq, Option.bind_some, decide_eq_true_eq]
 by_cases h : 2 ≤ l ∧ l ≤ 200 <;> by_cases h2 : ((1 ≤ a ∧ a ≤ 500) ∧ (1 ≤ b ∧ b ≤ 200)) <;> simp [h, h2]



/-- What both sides take for poles of a lamp. -/
def OkRow (l : List S24) (j : Int) : Prop := ((1 ≤ (rd_T24 l j).f0 ∧ (rd_T24 l j).f0 ≤ 500) ∧ (1 ≤ (rd_T24 l j).f1 ∧ (rd_T24 l j).f1 ≤ 200)) ∧ (0 < j → (rd_T24 l (j - 1)).f0 < (rd_T24 l j).f0)
def Good (m : Int) (l : List S24) : Prop := (2 ≤ m ∧ m ≤ 200) ∧ (1 ≤ (l.length : Int) ∧ (l.length : Int) ≤ 6) ∧ ∀ j : Int, 0 ≤ j → j < l.length → OkRow l j ∧ (rd_T24 l j).f1 < m

theorem row_l (n : Nat) : ∀ (l : List S24) (i : Int), 0 ≤ i → (l.length : Int) - i = n → l.length ≤ 1000000000 → ∃ b : Bool, Ev (fun k => spec_swRow.l0 k l l (l.length : Int) i) b ∧ (b = true ↔ ∀ j, i ≤ j → j < l.length → OkRow l j) := by
 induction n with
 | zero =>
  intro l i h0 h1 h2
  refine ⟨true, Ev.step (f := fun _ => some true) (fun k => ?_) (Ev.now _), by simp; intro j _ _; omega⟩
  simp only [spec_swRow.l0]
  rw [if_neg (by omega)]
 | succ n ih =>
  intro l i h0 h1 h2
  obtain ⟨b, hb, hi⟩ := ih l (i + 1) (by omega) (by omega) h2
  have hlt : i < (l.length : Int) := by omega
  by_cases c : (1 ≤ (rd_T24 l i).f0 ∧ (rd_T24 l i).f0 ≤ 500) ∧ (1 ≤ (rd_T24 l i).f1 ∧ (rd_T24 l i).f1 ≤ 200)
  ·by_cases c2 : 0 < i ∧ (rd_T24 l i).f0 ≤ (rd_T24 l (i - 1)).f0
   ·refine ⟨false, Ev.step (f := fun _ => some false) (fun k => ?_) (Ev.now _), ?_⟩
    ·simp only [spec_swRow.l0, pole_spec, Option.bind_some, decide_eq_true_eq]
     rw [if_pos hlt, if_pos h0, if_pos hlt, if_pos c, if_pos c2.1, wrap_id (x := i - 1) (by omega) (by omega), if_pos (by omega), if_pos (by omega), if_pos c2.2]
    ·simp only [Bool.false_eq_true, false_iff]
     intro H
     have := (H i (by omega) hlt).2 c2.1
     omega
   ·refine ⟨b, Ev.step (fun k => ?_) hb, ?_⟩
    ·simp only [spec_swRow.l0, pole_spec, Option.bind_some, decide_eq_true_eq]
     rw [if_pos hlt, if_pos h0, if_pos hlt, if_pos c, wrap_id (x := i + 1) (by omega) (by omega)]
     by_cases c3 : i > 0
     ·rw [if_pos c3, wrap_id (x := i - 1) (by omega) (by omega), if_pos (by omega), if_pos (by omega), if_neg (fun h => c2 ⟨c3, h⟩)]
     ·rw [if_neg c3]
    ·rw [hi]
     constructor
     ·intro H j h3 h4
      by_cases e : j = i
      ·subst e
       exact ⟨c, fun hp => by omega⟩
      ·exact H j (by omega) h4
     ·intro H j h3 h4
      exact H j (by omega) h4
  ·refine ⟨false, Ev.step (f := fun _ => some false) (fun k => ?_) (Ev.now _), ?_⟩
   ·simp only [spec_swRow.l0, pole_spec, Option.bind_some, decide_eq_true_eq]
    rw [if_pos hlt, if_pos h0, if_pos hlt, if_neg c]
   ·simp only [Bool.false_eq_true, false_iff]
    intro H
    exact c (H i (by omega) hlt).1

theorem low_l (m : Int) (n : Nat) : ∀ (l : List S24) (i : Int), 0 ≤ i → (l.length : Int) - i = n → l.length ≤ 1000000000 → ∃ b : Bool, Ev (fun k => spec_swGood.l0 k m l (l.length : Int) i) b ∧ (b = true ↔ ∀ j, i ≤ j → j < l.length → (rd_T24 l j).f1 < m) := by
 induction n with
 | zero =>
  intro l i h0 h1 h2
  refine ⟨true, Ev.step (f := fun _ => some true) (fun k => ?_) (Ev.now _), by simp; intro j _ _; omega⟩
  simp only [spec_swGood.l0]
  rw [if_neg (by omega)]
 | succ n ih =>
  intro l i h0 h1 h2
  obtain ⟨b, hb, hi⟩ := ih l (i + 1) (by omega) (by omega) h2
  have hlt : i < (l.length : Int) := by omega
  by_cases c : (rd_T24 l i).f1 ≥ m
  ·refine ⟨false, Ev.step (f := fun _ => some false) (fun k => ?_) (Ev.now _), ?_⟩
   ·simp only [spec_swGood.l0]
    rw [if_pos hlt, if_pos h0, if_pos hlt, if_pos c]
   ·simp only [Bool.false_eq_true, false_iff]
    intro H
    have := H i (by omega) hlt
    omega
  ·refine ⟨b, Ev.step (fun k => ?_) hb, ?_⟩
   ·simp only [spec_swGood.l0]
    rw [if_pos hlt, if_pos h0, if_pos hlt, if_neg c, wrap_id (x := i + 1) (by omega) (by omega)]
   ·rw [hi]
    constructor
    ·intro H j h3 h4
     by_cases e : j = i
     ·subst e; omega
     ·exact H j (by omega) h4
    ·intro H j h3 h4
     exact H j (by omega) h4

theorem are_l (m : Int) (n : Nat) : ∀ (l : List S24) (i : Int), 0 ≤ i → (l.length : Int) - i = n → l.length ≤ 1000000000 →
  ∃ b : Bool, Ev (fun k => impl_ArePoles.l0 k m l l (l.length : Int) i) b ∧ (b = true ↔ (∀ j, i ≤ j → j < l.length → (2 ≤ m ∧ m ≤ 200) ∧ OkRow l j ∧ (rd_T24 l j).f1 < m) ∧ (1 ≤ (l.length : Int) ∧ (l.length : Int) ≤ 6)) := by
 induction n with
 | zero =>
  intro l i h0 h1 h2
  refine ⟨decide (1 ≤ (l.length : Int) ∧ (l.length : Int) ≤ 6), Ev.step (f := fun _ => some (decide (1 ≤ (l.length : Int) ∧ (l.length : Int) ≤ 6))) (fun k => ?_) (Ev.now _), ?_⟩
  ·simp only [impl_ArePoles.l0, within_eq, Option.bind_some]
   rw [if_neg (by omega)]
  ·rw [decide_eq_true_eq]
   exact ⟨fun h => ⟨fun j _ _ => by omega, h⟩, fun h => h.2⟩
 | succ n ih =>
  intro l i h0 h1 h2
  obtain ⟨b, hb, hi⟩ := ih l (i + 1) (by omega) (by omega) h2
  have hlt : i < (l.length : Int) := by omega
  by_cases c : (2 ≤ m ∧ m ≤ 200) ∧ ((1 ≤ (rd_T24 l i).f0 ∧ (rd_T24 l i).f0 ≤ 500) ∧ (1 ≤ (rd_T24 l i).f1 ∧ (rd_T24 l i).f1 ≤ 200)) ∧ (rd_T24 l i).f1 < m
  ·by_cases c2 : 0 < i ∧ (rd_T24 l i).f0 ≤ (rd_T24 l (i - 1)).f0
   ·refine ⟨false, Ev.step (f := fun _ => some false) (fun k => ?_) (Ev.now _), ?_⟩
    ·simp only [impl_ArePoles.l0, both_impl, Option.bind_some, decide_eq_true_eq]
     rw [if_pos hlt, if_pos h0, if_pos hlt, if_pos c, if_pos c2.1, wrap_id (x := i - 1) (by omega) (by omega), if_pos (by omega), if_pos (by omega), if_pos (show (rd_T24 l (i - 1)).f0 ≥ (rd_T24 l i).f0 from c2.2)]
    ·simp only [Bool.false_eq_true, false_iff]
     intro H
     have := (H.1 i (by omega) hlt).2.1.2 c2.1
     omega
   ·refine ⟨b, Ev.step (fun k => ?_) hb, ?_⟩
    ·simp only [impl_ArePoles.l0, both_impl, Option.bind_some, decide_eq_true_eq]
     rw [if_pos hlt, if_pos h0, if_pos hlt, if_pos c, wrap_id (x := i + 1) (by omega) (by omega)]
     by_cases c3 : i > 0
     ·rw [if_pos c3, wrap_id (x := i - 1) (by omega) (by omega), if_pos (by omega), if_pos (by omega), if_neg (fun h => c2 ⟨c3, h⟩)]
     ·rw [if_neg c3]
    ·rw [hi]
     constructor
     ·intro H
      refine ⟨fun j h3 h4 => ?_, H.2⟩
      by_cases e : j = i
      ·subst e
       exact ⟨c.1, ⟨c.2.1, fun hp => by omega⟩, c.2.2⟩
      ·exact H.1 j (by omega) h4
     ·intro H
      exact ⟨fun j h3 h4 => H.1 j (by omega) h4, H.2⟩
  ·refine ⟨false, Ev.step (f := fun _ => some false) (fun k => ?_) (Ev.now _), ?_⟩
   ·simp only [impl_ArePoles.l0, both_impl, Option.bind_some, decide_eq_true_eq]
    rw [if_pos hlt, if_pos h0, if_pos hlt, if_neg c]
   ·simp only [Bool.false_eq_true, false_iff]
    intro H
    have := H.1 i (by omega) hlt
    exact c ⟨this.1, this.2.1.1, this.2.2⟩

/-- Both sides tell alike whether there are poles of a lamp. -/
theorem good_ev (m : Int) (l : List S24) (h : l.length ≤ 1000000000) : ∃ b : Bool, Ev (fun k => spec_swGood.f k m l) b ∧ Ev (fun k => impl_ArePoles.f k m l) b ∧ (b = true ↔ Good m l) := by
 obtain ⟨b1, e1, i1⟩ := are_l m l.length l 0 (by omega) (by omega) h
 obtain ⟨b2, e2, i2⟩ := row_l l.length l 0 (by omega) (by omega) h
 obtain ⟨b3, e3, i3⟩ := low_l m l.length l 0 (by omega) (by omega) h
 have i1' : b1 = true ↔ Good m l := by
  rw [i1]
  constructor
  ·intro H
   have h0 := H.1 0 (by omega) (by omega)
   exact ⟨h0.1, H.2, fun j hj hj2 => (H.1 j hj hj2).2⟩
  ·intro H
   exact ⟨fun j hj hj2 => ⟨H.1, H.2.2 j hj hj2⟩, H.2.1⟩
 refine ⟨b1, ?_, e1, i1'⟩
 obtain ⟨K2, k2⟩ := e2
 obtain ⟨K3, k3⟩ := e3
 replace k2 : ∀ k, K2 ≤ k → spec_swRow.l0 k l l (l.length : Int) 0 = some b2 := k2
 replace k3 : ∀ k, K3 ≤ k → spec_swGood.l0 k m l (l.length : Int) 0 = some b3 := k3
 refine ⟨K2 + K3 + 5, fun k hk => ?_⟩
 obtain ⟨k, rfl⟩ : ∃ m, k = m + 1 := ⟨k - 1, by omega⟩
 simp only [spec_swGood.f, spec_swLamp.f, spec_swRow.f, in_eq, Option.bind_some, decide_eq_true_eq]
 by_cases c1 : 2 ≤ m ∧ m ≤ 200
 ·rw [if_pos c1]
  by_cases c2 : 1 ≤ (l.length : Int) ∧ (l.length : Int) ≤ 6
  ·rw [if_pos c2, k2 (k + 1) (by omega)]
   simp only [Option.bind_some, spec_swGood.j0]
   cases b2
   ·rw [if_pos (show (!false) = true from rfl)]
    have : b1 = false := by
     rw [← Bool.not_eq_true, i1']
     intro H
     exact absurd (i2.2 (fun j hj hj2 => (H.2.2 j hj hj2).1)) (by simp)
    rw [this]
   ·rw [if_neg (show ¬ (!true) = true by simp), k3 k (by omega)]
    congr 1
    rw [Bool.eq_iff_iff, i3, i1']
    constructor
    ·intro H
     exact ⟨c1, c2, fun j hj hj2 => ⟨i2.1 rfl j hj hj2, H j hj hj2⟩⟩
    ·intro H j hj hj2
     exact (H.2.2 j hj hj2).2
  ·rw [if_neg c2]
   simp only [Option.bind_some, spec_swGood.j0]
   rw [if_pos (show (!false) = true from rfl)]
   have : b1 = false := by
    rw [← Bool.not_eq_true, i1']
    intro H
    exact c2 H.2.1
   rw [this]
 ·rw [if_neg c1]
  simp only [spec_swGood.j0]
  rw [if_pos trivial]
  have : b1 = false := by
   rw [← Bool.not_eq_true, i1']
   intro H
   exact c1 H.1
  rw [this]


/-- A fraction's two numbers in lowest terms. -/
def nu (x y : Int) : Int := Int.tdiv x (Int.gcd x y : Int)
def de (x y : Int) : Int := Int.tdiv y (Int.gcd x y : Int)
theorem nd (x y : Int) (hx : 0 ≤ x) (hy : 0 < y) : ∃ g : Int, 0 < g ∧ x = g * nu x y ∧ y = g * de x y ∧ 0 ≤ nu x y ∧ 1 ≤ de x y ∧ nu x y ≤ x ∧ de x y ≤ y ∧ Int.gcd (nu x y) (de x y) = 1 := by
 obtain ⟨p, q, h1, h2, h3, h4, h5, h6, h7, h8, h9⟩ := cofactors rfl hx hy
 have e1 : nu x y = p := h8
 have e2 : de x y = q := h9
 rw [e1, e2]
 refine ⟨_, h1, h2, h3, h4, h5, h6, h7, ?_⟩
 have e : Int.gcd x y = Int.gcd x y * Int.gcd p q := by
  have h10 : Int.gcd ((Int.gcd x y : Int) * p) ((Int.gcd x y : Int) * q) = Int.gcd x y * Int.gcd p q := by
   rw [Int.gcd_mul_left, Int.natAbs_natCast]
  rw [← h2, ← h3] at h10
  exact h10
 have hp : 0 < Int.gcd x y := by omega
 have := Nat.eq_of_mul_eq_mul_left hp (show Int.gcd x y * Int.gcd p q = Int.gcd x y * 1 by omega)
 exact this
theorem impl_low (k : Nat) (x y : Int) (hx : 0 ≤ x) (hx2 : x ≤ 1000000000000000) (hy : 0 < y) (hy2 : y ≤ 1000000000) (hk : 2000000000 ≤ k) : impl_fraction.f k x y = some (nu x y, de x y, true) := by
 obtain ⟨p, q, h1, h2, h3, h4, h5, h6, h7, h8, h9⟩ := cofactors rfl hx hy
 unfold impl_fraction.f impl_gcd.f nu de
 rw [gcd_ev y.toNat k x y hx hx2 (by omega) (by omega) (by omega) (by omega)]
 simp only [Option.bind_some]
 rw [if_neg (by omega), h8, h9, wrap_id (by omega) (by omega), wrap_id (by omega) (by omega)]
theorem cancel {g x y : Int} (hg : 0 < g) (h : g * x = g * y) : x = y := Int.eq_of_mul_eq_mul_left (by omega) h
theorem cancel_le {g x y : Int} (hg : 0 < g) (h : g * x ≤ g * y) : x ≤ y := Int.le_of_mul_le_mul_left h hg
theorem low_c1 (c n : Int) (hc : 1 ≤ c) (hn : 0 < n) : nu (c * n) n = c ∧ de (c * n) n = 1 := by
 have hp := Int.mul_pos (show 0 < c by omega) hn
 obtain ⟨g, g0, e1, e2, p0, q1, -, -, hg⟩ := nd (c * n) n (by omega) hn
 generalize nu (c * n) n = p at *
 generalize de (c * n) n = q at *
 have ep : p = c * q := cancel g0 (by grind)
 have hd : q ∣ (Int.gcd p q : Int) := Int.dvd_coe_gcd (by rw [ep]; exact Int.dvd_mul_left ..) (Int.dvd_refl _)
 rw [hg] at hd
 have hle := Int.le_of_dvd (by omega) hd
 have : q = 1 := by omega
 subst this
 exact ⟨by rw [ep, Int.mul_one], rfl⟩
theorem fr_trans {a b c x y z : Int} (hx : 0 < x) (hy : 0 < y) (hz : 0 < z) (h1 : a * y ≤ b * x) (h2 : b * z ≤ c * y) : a * z ≤ c * x := by
 refine cancel_le hy ?_
 have e1 := Int.mul_le_mul_of_nonneg_right h1 (Int.le_of_lt hz)
 have e2 := Int.mul_le_mul_of_nonneg_right h2 (Int.le_of_lt hx)
 have f1 : y * (a * z) = a * y * z := by grind
 have f2 : b * x * z = b * z * x := by grind
 have f3 : y * (c * x) = c * y * x := by grind
 omega
theorem fr_trans_lt {a b c x y z : Int} (hx : 0 < x) (hy : 0 < y) (hz : 0 < z) (h1 : a * y ≤ b * x) (h2 : b * z < c * y) : a * z < c * x := by
 refine Int.lt_of_mul_lt_mul_left (a := y) ?_ (Int.le_of_lt hy)
 have e1 := Int.mul_le_mul_of_nonneg_right h1 (Int.le_of_lt hz)
 have e2 := Int.mul_lt_mul_of_pos_right h2 hx
 have f1 : y * (a * z) = a * y * z := by grind
 have f2 : b * x * z = b * z * x := by grind
 have f3 : y * (c * x) = c * y * x := by grind
 omega
/-- Two fractions in lowest terms compare as they do out of them. -/
theorem fr_cmp {x y u v : Int} (hx : 0 ≤ x) (hy : 0 < y) (hu : 0 ≤ u) (hv : 0 < v) : (nu x y * de u v ≤ nu u v * de x y ↔ x * v ≤ u * y) ∧ (nu x y * de u v = nu u v * de x y ↔ x * v = u * y) := by
 obtain ⟨g, g0, e1, e2, p0, q1, -, -, -⟩ := nd x y hx hy
 obtain ⟨g', g0', e1', e2', p0', q1', -, -, -⟩ := nd u v hu hv
 generalize nu x y = p at *
 generalize de x y = q at *
 generalize nu u v = p' at *
 generalize de u v = q' at *
 have hg := Int.mul_pos g0 g0'
 have f1 : x * v = g * g' * (p * q') := by rw [e1, e2']; grind
 have f2 : u * y = g * g' * (p' * q) := by rw [e1', e2]; grind
 rw [f1, f2]
 refine ⟨⟨fun h => Int.mul_le_mul_of_nonneg_left h (by omega), fun h => cancel_le hg h⟩, ⟨fun h => by rw [h], fun h => cancel hg h⟩⟩
theorem fr_at {x y c : Int} (hx : 0 ≤ x) (hy : 0 < y) : c * de x y ≤ nu x y ↔ c * y ≤ x := by
 obtain ⟨g, g0, e1, e2, -⟩ := nd x y hx hy
 exact hides_iff g0 e1 e2
def B (m a b : Int) : Prop := (2 ≤ m ∧ m ≤ 200) ∧ ((1 ≤ a ∧ a ≤ 500) ∧ (1 ≤ b ∧ b ≤ 200)) ∧ b < m
theorem bd (m a b : Int) (h : B m a b) : (1 ≤ a * m ∧ a * m ≤ 100000) ∧ (1 ≤ a * b ∧ a * b ≤ 100000) ∧ 1 ≤ m - b ∧ m - b ≤ 199 := by
 obtain ⟨h1, h2, h3⟩ := h
 have m1 := mulb (a := a) (b := m) (A := 500) (B := 200) (by omega) (by omega) (by omega) (by omega)
 have m2 := mulb (a := a) (b := b) (A := 500) (B := 200) (by omega) (by omega) (by omega) (by omega)
 have m3 := Int.mul_pos (show 0 < a by omega) (show 0 < m by omega)
 have m4 := Int.mul_pos (show 0 < a by omega) (show 0 < b by omega)
 omega
theorem sEnd (k : Nat) (hk : 2000000000 ≤ k) (m a b : Int) (h : B m a b) : impl_ShadowEnd.f k m a b = some (nu (a * m) (m - b), de (a * m) (m - b), true) := by
 obtain ⟨n1, n2, n3, n4⟩ := bd m a b h
 unfold B at h
 simp only [impl_ShadowEnd.f, both_impl, Option.bind_some, decide_eq_true_eq]
 rw [if_pos h, wrap_id (x := a * m) (by omega) (by omega), wrap_id (x := m - b) (by omega) (by omega), impl_low k _ _ (by omega) (by omega) (by omega) (by omega) hk]
 rfl
theorem sLen (k : Nat) (hk : 2000000000 ≤ k) (m a b : Int) (h : B m a b) : impl_ShadowLength.f k m a b = some (nu (a * b) (m - b), de (a * b) (m - b), true) := by
 obtain ⟨n1, n2, n3, n4⟩ := bd m a b h
 unfold B at h
 simp only [impl_ShadowLength.f, both_impl, Option.bind_some, decide_eq_true_eq]
 rw [if_pos h, wrap_id (x := a * b) (by omega) (by omega), wrap_id (x := m - b) (by omega) (by omega), impl_low k _ _ (by omega) (by omega) (by omega) (by omega) hk]
 rfl
theorem good_B {m : Int} {l : List S24} (hg : Good m l) {j : Int} (h0 : 0 ≤ j) (h1 : j < l.length) : B m (rd_T24 l j).f0 (rd_T24 l j).f1 := ⟨hg.1, (hg.2.2 j h0 h1).1.1, (hg.2.2 j h0 h1).2⟩
theorem end_ev (m : Int) (l : List S24) (j : Int) (hg : Good m l) (h0 : 0 ≤ j) (h1 : j < l.length) :
  (∀ k, 2000000000 ≤ k → spec_ShadowEnd.f k m (rd_T24 l j).f0 (rd_T24 l j).f1 = some (nu ((rd_T24 l j).f0 * m) (m - (rd_T24 l j).f1), de ((rd_T24 l j).f0 * m) (m - (rd_T24 l j).f1), true)) ∧ (∀ k, 2000000000 ≤ k → impl_ShadowEnd.f k m (rd_T24 l j).f0 (rd_T24 l j).f1 = some (nu ((rd_T24 l j).f0 * m) (m - (rd_T24 l j).f1), de ((rd_T24 l j).f0 * m) (m - (rd_T24 l j).f1), true)) := by
 have hb := good_B hg h0 h1
 generalize (rd_T24 l j).f0 = a at *
 generalize (rd_T24 l j).f1 = b at *
 obtain ⟨n1, n2, n3, n4⟩ := bd m a b hb
 refine ⟨fun k hk => ?_, fun k hk => sEnd k hk m a b hb⟩
 unfold B at hb
 simp only [spec_ShadowEnd.f, both_spec, Option.bind_some, decide_eq_true_eq]
 rw [if_pos hb, wrap_id (x := a * m) (by omega) (by omega), wrap_id (x := m - b) (by omega) (by omega)]
 unfold spec_clLow.f
 obtain ⟨p, q, h1, h2, h3, h4, h5, h6, h7, h8, h9⟩ := cofactors (g := (Int.gcd (a * m) (m - b) : Int)) rfl (show 0 ≤ a * m by omega) (show 0 < m - b by omega)
 rw [low_ev 200 k (a * m) (m - b) (a * m) (m - b) (by omega) (by omega) (by omega) (by omega) (by omega)]
 unfold nu de
 rw [h8, h9, wrap_id (by omega) (by omega), wrap_id (by omega) (by omega)]
 rfl
/-- What the farthest dark place is. -/
theorem far_l (m : Int) (l : List S24) (hl : l.length ≤ 1000000000) (hg : Good m l) (n : Nat) : ∀ (best i : Int), 0 ≤ best → best < l.length → 0 ≤ i → (l.length : Int) - i = n →
  (∀ j : Int, 0 ≤ j → j < i → (rd_T24 l j).f0 * (m - (rd_T24 l best).f1) ≤ (rd_T24 l best).f0 * (m - (rd_T24 l j).f1)) →
  ∃ b : Int, 0 ≤ b ∧ b < l.length ∧ Ev (fun k => spec_FarthestDark.l0 k m l best l (l.length : Int) i) (nu ((rd_T24 l b).f0 * m) (m - (rd_T24 l b).f1), de ((rd_T24 l b).f0 * m) (m - (rd_T24 l b).f1), true) ∧
   Ev (fun k => impl_FarthestDark.l0 k m l (l.length : Int) i (rd_T24 l best).f0 (rd_T24 l best).f1) (nu ((rd_T24 l b).f0 * m) (m - (rd_T24 l b).f1), de ((rd_T24 l b).f0 * m) (m - (rd_T24 l b).f1), true) ∧
   ∀ j : Int, 0 ≤ j → j < l.length → (rd_T24 l j).f0 * (m - (rd_T24 l b).f1) ≤ (rd_T24 l b).f0 * (m - (rd_T24 l j).f1) := by
 induction n with
 | zero =>
  intro best i h0 h1 h2 h3 hI
  obtain ⟨e1, e2⟩ := end_ev m l best hg h0 h1
  refine ⟨best, h0, h1, stepK 2000000000 (f := fun _ => some (nu ((rd_T24 l best).f0 * m) (m - (rd_T24 l best).f1), de ((rd_T24 l best).f0 * m) (m - (rd_T24 l best).f1), true)) (fun k hk => ?_) (Ev.now _), stepK 2000000000 (f := fun _ => some (nu ((rd_T24 l best).f0 * m) (m - (rd_T24 l best).f1), de ((rd_T24 l best).f0 * m) (m - (rd_T24 l best).f1), true)) (fun k hk => ?_) (Ev.now _), fun j j0 j1 => hI j j0 (by omega)⟩
  ·simp only [spec_FarthestDark.l0]
   rw [if_neg (by omega), if_pos h0, if_pos h1, e1 k hk]
   rfl
  ·simp only [impl_FarthestDark.l0]
   rw [if_neg (by omega), e2 k hk]
   rfl
 | succ n ih =>
  intro best i h0 h1 h2 h3 hI
  have hlt : i < (l.length : Int) := by omega
  have b1 := good_B hg h2 hlt
  have b2 := good_B hg h0 h1
  have n1 := bd _ _ _ b1
  have n2 := bd _ _ _ b2
  have x1 := mulb (a := (rd_T24 l i).f0) (b := m - (rd_T24 l best).f1) (A := 500) (B := 199) (by have := b1.2.1.1; omega) b1.2.1.1.2 (by omega) (by omega)
  have x2 := mulb (a := (rd_T24 l best).f0) (b := m - (rd_T24 l i).f1) (A := 500) (B := 199) (by have := b2.2.1.1; omega) b2.2.1.1.2 (by omega) (by omega)
  have w1 : wrap64 (m - (rd_T24 l best).f1) = m - (rd_T24 l best).f1 := wrap_id (by omega) (by omega)
  have w2 : wrap64 (m - (rd_T24 l i).f1) = m - (rd_T24 l i).f1 := wrap_id (by omega) (by omega)
  have w3 : wrap64 ((rd_T24 l i).f0 * (m - (rd_T24 l best).f1)) = (rd_T24 l i).f0 * (m - (rd_T24 l best).f1) := wrap_id (by omega) (by omega)
  have w4 : wrap64 ((rd_T24 l best).f0 * (m - (rd_T24 l i).f1)) = (rd_T24 l best).f0 * (m - (rd_T24 l i).f1) := wrap_id (by omega) (by omega)
  by_cases c : (rd_T24 l i).f0 * (m - (rd_T24 l best).f1) > (rd_T24 l best).f0 * (m - (rd_T24 l i).f1)
  ·obtain ⟨b, y1, y2, e1, e2, e3⟩ := ih i (i + 1) h2 hlt (by omega) (by omega) (fun j j0 j1 => by
    by_cases e : j = i
    ·rw [e]; exact Int.le_refl _
    ·have n3 := bd _ _ _ (good_B hg j0 (show j < (l.length : Int) by omega))
     exact fr_trans (by omega) (by omega) (by omega) (hI j j0 (by omega)) (Int.le_of_lt c))
   refine ⟨b, y1, y2, Ev.step (fun k => ?_) e1, Ev.step (fun k => ?_) e2, e3⟩
   ·simp only [spec_FarthestDark.l0]
    rw [w1, w2, w3, w4, if_pos hlt, if_pos h2, if_pos hlt, if_pos h0, if_pos h1, if_pos c, wrap_id (x := i + 1) (by omega) (by omega)]
   ·simp only [impl_FarthestDark.l0]
    rw [w1, w2, w3, w4, if_pos hlt, if_pos h2, if_pos hlt, if_pos c, wrap_id (x := i + 1) (by omega) (by omega)]
  ·obtain ⟨b, y1, y2, e1, e2, e3⟩ := ih best (i + 1) h0 h1 (by omega) (by omega) (fun j j0 j1 => by
    by_cases e : j = i
    ·rw [e]; omega
    ·exact hI j j0 (by omega))
   refine ⟨b, y1, y2, Ev.step (fun k => ?_) e1, Ev.step (fun k => ?_) e2, e3⟩
   ·simp only [spec_FarthestDark.l0]
    rw [w1, w2, w3, w4, if_pos hlt, if_pos h2, if_pos hlt, if_pos h0, if_pos h1, if_neg c, wrap_id (x := i + 1) (by omega) (by omega)]
   ·simp only [impl_FarthestDark.l0]
    rw [w1, w2, w3, w4, if_pos hlt, if_pos h2, if_pos hlt, if_neg c, wrap_id (x := i + 1) (by omega) (by omega)]
theorem far_ev (m : Int) (l : List S24) (hl : l.length ≤ 1000000000) : ∃ (p q : Int) (o : Bool), Ev (fun k => spec_FarthestDark.f k m l) (p, q, o) ∧ Ev (fun k => impl_FarthestDark.f k m l) (p, q, o) ∧ (o = true ↔ Good m l) ∧
  (o = true → ∃ b : Int, 0 ≤ b ∧ b < l.length ∧ p = nu ((rd_T24 l b).f0 * m) (m - (rd_T24 l b).f1) ∧ q = de ((rd_T24 l b).f0 * m) (m - (rd_T24 l b).f1) ∧ ∀ j : Int, 0 ≤ j → j < l.length → (rd_T24 l j).f0 * (m - (rd_T24 l b).f1) ≤ (rd_T24 l b).f0 * (m - (rd_T24 l j).f1)) := by
 obtain ⟨b, ⟨K1, h1⟩, ⟨K2, h2⟩, hb⟩ := good_ev m l hl
 cases b
 ·refine ⟨0, 0, false, ⟨K1, fun k hk => ?_⟩, ⟨K2, fun k hk => ?_⟩, hb, fun h => by cases h⟩
  ·simp [spec_FarthestDark.f, h1 k hk]
  ·simp [impl_FarthestDark.f, h2 k hk]
 ·have hg := hb.1 rfl
  have hpos : 0 < (l.length : Int) := by have := hg.2.1; omega
  obtain ⟨b, y1, y2, e1, e2, e3⟩ := far_l m l hl hg l.length 0 0 (by omega) hpos (by omega) (by omega) (fun j j0 j1 => by omega)
  refine ⟨_, _, true, congrK K1 (fun k hk => ?_) e1, congrK K2 (fun k hk => ?_) e2, hb, fun _ => ⟨b, y1, y2, rfl, rfl, e3⟩⟩
  ·simp [spec_FarthestDark.f, h1 k hk]
  ·simp only [impl_FarthestDark.f, h2 k hk, Option.bind_some, if_true]
   rw [if_pos hpos]
/-- What the longest shadow's index is. -/
theorem long_l (m : Int) (l : List S24) (hl : l.length ≤ 1000000000) (hg : Good m l) (n : Nat) : ∀ (best i : Int), 0 ≤ best → best < l.length → 0 ≤ i → (l.length : Int) - i = n →
  (∀ j : Int, 0 ≤ j → j < i → (rd_T24 l j).f0 * (rd_T24 l j).f1 * (m - (rd_T24 l best).f1) ≤ (rd_T24 l best).f0 * (rd_T24 l best).f1 * (m - (rd_T24 l j).f1)) →
  (∀ j : Int, 0 ≤ j → j < best → (rd_T24 l j).f0 * (rd_T24 l j).f1 * (m - (rd_T24 l best).f1) < (rd_T24 l best).f0 * (rd_T24 l best).f1 * (m - (rd_T24 l j).f1)) →
  ∃ b : Int, 0 ≤ b ∧ b < l.length ∧ Ev (fun k => spec_LongestShadow.l0 k m l best l (l.length : Int) i) (b, true) ∧ Ev (fun k => impl_LongestShadow.l0 k m l best l (l.length : Int) i) (b, true) ∧
   (∀ j : Int, 0 ≤ j → j < l.length → (rd_T24 l j).f0 * (rd_T24 l j).f1 * (m - (rd_T24 l b).f1) ≤ (rd_T24 l b).f0 * (rd_T24 l b).f1 * (m - (rd_T24 l j).f1)) ∧
   (∀ j : Int, 0 ≤ j → j < b → (rd_T24 l j).f0 * (rd_T24 l j).f1 * (m - (rd_T24 l b).f1) < (rd_T24 l b).f0 * (rd_T24 l b).f1 * (m - (rd_T24 l j).f1)) := by
 induction n with
 | zero =>
  intro best i h0 h1 h2 h3 hI hS
  refine ⟨best, h0, h1, Ev.step (f := fun _ => some (best, true)) (fun k => ?_) (Ev.now _), Ev.step (f := fun _ => some (best, true)) (fun k => ?_) (Ev.now _), fun j j0 j1 => hI j j0 (by omega), hS⟩
  ·simp only [spec_LongestShadow.l0]
   rw [if_neg (by omega)]
  ·simp only [impl_LongestShadow.l0]
   rw [if_neg (by omega)]
 | succ n ih =>
  intro best i h0 h1 h2 h3 hI hS
  have hlt : i < (l.length : Int) := by omega
  have n1 := bd _ _ _ (good_B hg h2 hlt)
  have n2 := bd _ _ _ (good_B hg h0 h1)
  have x1 := mulb (a := (rd_T24 l i).f0 * (rd_T24 l i).f1) (b := m - (rd_T24 l best).f1) (A := 100000) (B := 199) (by omega) (by omega) (by omega) (by omega)
  have x2 := mulb (a := (rd_T24 l best).f0 * (rd_T24 l best).f1) (b := m - (rd_T24 l i).f1) (A := 100000) (B := 199) (by omega) (by omega) (by omega) (by omega)
  have w1 : wrap64 (m - (rd_T24 l best).f1) = m - (rd_T24 l best).f1 := wrap_id (by omega) (by omega)
  have w2 : wrap64 (m - (rd_T24 l i).f1) = m - (rd_T24 l i).f1 := wrap_id (by omega) (by omega)
  have w5 : wrap64 ((rd_T24 l i).f0 * (rd_T24 l i).f1) = (rd_T24 l i).f0 * (rd_T24 l i).f1 := wrap_id (by omega) (by omega)
  have w6 : wrap64 ((rd_T24 l best).f0 * (rd_T24 l best).f1) = (rd_T24 l best).f0 * (rd_T24 l best).f1 := wrap_id (by omega) (by omega)
  have w3 : wrap64 ((rd_T24 l i).f0 * (rd_T24 l i).f1 * (m - (rd_T24 l best).f1)) = (rd_T24 l i).f0 * (rd_T24 l i).f1 * (m - (rd_T24 l best).f1) := wrap_id (by omega) (by omega)
  have w4 : wrap64 ((rd_T24 l best).f0 * (rd_T24 l best).f1 * (m - (rd_T24 l i).f1)) = (rd_T24 l best).f0 * (rd_T24 l best).f1 * (m - (rd_T24 l i).f1) := wrap_id (by omega) (by omega)
  by_cases c : (rd_T24 l i).f0 * (rd_T24 l i).f1 * (m - (rd_T24 l best).f1) > (rd_T24 l best).f0 * (rd_T24 l best).f1 * (m - (rd_T24 l i).f1)
  ·obtain ⟨b, y1, y2, e1, e2, e3⟩ := ih i (i + 1) h2 hlt (by omega) (by omega) (fun j j0 j1 => by
    by_cases e : j = i
    ·rw [e]; exact Int.le_refl _
    ·have n3 := bd _ _ _ (good_B hg j0 (show j < (l.length : Int) by omega))
     exact fr_trans (by omega) (by omega) (by omega) (hI j j0 (by omega)) (Int.le_of_lt c)) (fun j j0 j1 => by
     have n3 := bd _ _ _ (good_B hg j0 (show j < (l.length : Int) by omega))
     exact fr_trans_lt (by omega) (by omega) (by omega) (hI j j0 j1) c)
   refine ⟨b, y1, y2, Ev.step (fun k => ?_) e1, Ev.step (fun k => ?_) e2, e3⟩
   ·simp only [spec_LongestShadow.l0]
    rw [w1, w2, w5, w6, w3, w4, if_pos hlt, if_pos h2, if_pos hlt, if_pos h0, if_pos h1, if_pos c, wrap_id (x := i + 1) (by omega) (by omega)]
   ·simp only [impl_LongestShadow.l0]
    rw [w1, w2, w5, w6, w3, w4, if_pos hlt, if_pos h2, if_pos hlt, if_pos h0, if_pos h1, if_pos c, wrap_id (x := i + 1) (by omega) (by omega)]
  ·obtain ⟨b, y1, y2, e1, e2, e3⟩ := ih best (i + 1) h0 h1 (by omega) (by omega) (fun j j0 j1 => by
    by_cases e : j = i
    ·rw [e]; omega
    ·exact hI j j0 (by omega)) hS
   refine ⟨b, y1, y2, Ev.step (fun k => ?_) e1, Ev.step (fun k => ?_) e2, e3⟩
   ·simp only [spec_LongestShadow.l0]
    rw [w1, w2, w5, w6, w3, w4, if_pos hlt, if_pos h2, if_pos hlt, if_pos h0, if_pos h1, if_neg c, wrap_id (x := i + 1) (by omega) (by omega)]
   ·simp only [impl_LongestShadow.l0]
    rw [w1, w2, w5, w6, w3, w4, if_pos hlt, if_pos h2, if_pos hlt, if_pos h0, if_pos h1, if_neg c, wrap_id (x := i + 1) (by omega) (by omega)]
theorem long_ev (m : Int) (l : List S24) (hl : l.length ≤ 1000000000) : ∃ (b : Int) (o : Bool), Ev (fun k => spec_LongestShadow.f k m l) (b, o) ∧ Ev (fun k => impl_LongestShadow.f k m l) (b, o) ∧ (o = true ↔ Good m l) ∧ (o = true → 0 ≤ b ∧ b < l.length ∧
   (∀ j : Int, 0 ≤ j → j < l.length → (rd_T24 l j).f0 * (rd_T24 l j).f1 * (m - (rd_T24 l b).f1) ≤ (rd_T24 l b).f0 * (rd_T24 l b).f1 * (m - (rd_T24 l j).f1)) ∧
   (∀ j : Int, 0 ≤ j → j < b → (rd_T24 l j).f0 * (rd_T24 l j).f1 * (m - (rd_T24 l b).f1) < (rd_T24 l b).f0 * (rd_T24 l b).f1 * (m - (rd_T24 l j).f1))) := by
 obtain ⟨b, ⟨K1, h1⟩, ⟨K2, h2⟩, hb⟩ := good_ev m l hl
 cases b
 ·refine ⟨0, false, ⟨K1, fun k hk => ?_⟩, ⟨K2, fun k hk => ?_⟩, hb, fun h => by cases h⟩
  ·simp [spec_LongestShadow.f, h1 k hk]
  ·simp [impl_LongestShadow.f, h2 k hk]
 ·have hg := hb.1 rfl
  obtain ⟨r, y1, y2, e1, e2, e3, e4⟩ := long_l m l hl hg l.length 0 0 (by omega) (by have := hg.2.1; omega) (by omega) (by omega) (fun j j0 j1 => by omega) (fun j j0 j1 => by omega)
  refine ⟨r, true, congrK K1 (fun k hk => ?_) e1, congrK K2 (fun k hk => ?_) e2, hb, fun _ => ⟨y1, y2, e3, e4⟩⟩
  ·simp [spec_LongestShadow.f, h1 k hk]
  ·simp [impl_LongestShadow.f, h2 k hk]
theorem has_l (v : Int) (n : Nat) : ∀ (R : List Int) (i : Int), 0 ≤ i → (R.length : Int) - i = n → R.length ≤ 1000000 → Ev (fun k => laws_yHas.l0 k v R (R.length : Int) i) (decide (v ∈ R.drop i.toNat)) := by
 induction n with
 | zero =>
  intro R i h0 h1 h2
  have e : R.drop i.toNat = [] := List.drop_eq_nil_of_le (by omega)
  refine Ev.step (f := fun _ => some (decide (v ∈ R.drop i.toNat))) (fun k => ?_) (Ev.now _)
  simp only [laws_yHas.l0]
  rw [if_neg (by omega), e]
  simp
 | succ n ih =>
  intro R i h0 h1 h2
  have hi : i.toNat < R.length := by omega
  have e : R.drop i.toNat = rd R i :: R.drop (i + 1).toNat := by
   rw [List.drop_eq_getElem_cons hi]
   have e2 : (i + 1).toNat = i.toNat + 1 := by omega
   rw [e2]
   congr 1
   unfold rd
   rw [List.getD_eq_getElem?_getD, List.getElem?_eq_getElem hi]
   rfl
  rw [e]
  by_cases c : rd R i = v
  ·refine Ev.step (f := fun _ => some (decide (v ∈ rd R i :: R.drop (i + 1).toNat))) (fun k => ?_) (Ev.now _)
   simp only [laws_yHas.l0]
   rw [if_pos (by omega), if_pos h0, if_pos (by omega), if_pos c, decide_eq_true (by rw [c]; exact List.mem_cons_self ..)]
  ·refine Ev.step (fun k => ?_) (show Ev _ (decide (v ∈ rd R i :: R.drop (i + 1).toNat)) from ?_) (f := fun k => laws_yHas.l0 k v R (R.length : Int) (i + 1))
   ·simp only [laws_yHas.l0]
    rw [if_pos (by omega), if_pos h0, if_pos (by omega), if_neg c, wrap_id (x := i + 1) (by omega) (by omega)]
   ·have e3 : decide (v ∈ rd R i :: R.drop (i + 1).toNat) = decide (v ∈ R.drop (i + 1).toNat) := decide_eq_decide.2 ⟨fun h => (List.mem_cons.1 h).resolve_left (fun h => c h.symm), fun h => List.mem_cons_of_mem _ h⟩
    rw [e3]
    exact ih R (i + 1) (by omega) (by omega) h2
theorem has_ev (R : List Int) (v : Int) (h : R.length ≤ 1000000) : Ev (fun k => laws_yHas.f k R v) (decide (v ∈ R)) := by
 have := has_l v R.length R 0 (by omega) (by omega) h
 simpa [laws_yHas.f] using this
theorem rises_l (n : Nat) : ∀ (R : List Int) (i : Int), R.Pairwise (· < ·) → 1 ≤ i → (R.length : Int) - i ≤ n → R.length ≤ 1000000 → Ev (fun k => laws_yRises.l0 k R i) true := by
 induction n with
 | zero =>
  intro R i hp h0 h1 h2
  refine Ev.step (f := fun _ => some true) (fun k => ?_) (Ev.now _)
  simp only [laws_yRises.l0]
  rw [if_neg (by omega)]
 | succ n ih =>
  intro R i hp h0 h1 h2
  by_cases c : i < (R.length : Int)
  ·have h3 : rd R (i - 1) < rd R i := by
    have := List.pairwise_iff_getElem.1 hp (i - 1).toNat i.toNat (by omega) (by omega) (by omega)
    unfold rd
    rw [List.getD_eq_getElem?_getD, List.getElem?_eq_getElem (by omega), List.getD_eq_getElem?_getD, List.getElem?_eq_getElem (by omega)]
    exact this
   refine Ev.step (fun k => ?_) (ih R (i + 1) hp (by omega) (by omega) h2)
   simp only [laws_yRises.l0]
   rw [wrap_id (x := i - 1) (by omega) (by omega), if_pos c, if_pos (by omega), if_pos (by omega), if_pos (by omega), if_neg (by omega), wrap_id (x := i + 1) (by omega) (by omega)]
  ·refine Ev.step (f := fun _ => some true) (fun k => ?_) (Ev.now _)
   simp only [laws_yRises.l0]
   rw [if_neg c]
theorem rises_ev (R : List Int) (hp : R.Pairwise (· < ·)) (h : R.length ≤ 1000000) : Ev (fun k => laws_yRises.f k R) true := by
 have := rises_l R.length R 1 hp (by omega) (by omega) h
 simpa [laws_yRises.f] using this

theorem rd_take (l : List S24) (i j : Int) (h0 : 0 ≤ j) (h1 : j < i) : rd_T24 (l.take i.toNat) j = rd_T24 l j := by
 unfold rd_T24
 rw [List.getD_eq_getElem?_getD, List.getD_eq_getElem?_getD, List.getElem?_take, if_pos (by omega)]
/-- The pole j hides the pole i. -/
def Hid (m : Int) (l : List S24) (j i : Int) : Prop := (rd_T24 l j).f0 < (rd_T24 l i).f0 ∧ (rd_T24 l i).f1 * (rd_T24 l j).f0 ≤ m * (rd_T24 l j).f0 - (m - (rd_T24 l j).f1) * (rd_T24 l i).f0
instance (m : Int) (l : List S24) (j i : Int) : Decidable (Hid m l j i) := inferInstanceAs (Decidable (_ ∧ _))
theorem hid_at {m : Int} {l : List S24} (hg : Good m l) {i j : Int} (h0 : 0 ≤ j) (h1 : j < (l.length : Int)) (h2 : 0 ≤ i) (h3 : i < (l.length : Int)) : (∀ k, 1000 ≤ k → spec_swHides.f k m (rd_T24 l j).f0 (rd_T24 l j).f1 (rd_T24 l i).f0 (rd_T24 l i).f1 = some (decide (Hid m l j i))) ∧ impl_isHidden.f m (rd_T24 l j).f0 (rd_T24 l j).f1 (rd_T24 l i).f0 (rd_T24 l i).f1 = some (decide (Hid m l j i)) := by
 have ga := hg.2.2 i h2 h3
 have gb := hg.2.2 j h0 h1
 obtain ⟨o, e1, e2, e3⟩ := hides_ev m (rd_T24 l j).f0 (rd_T24 l j).f1 (rd_T24 l i).f0 (rd_T24 l i).f1 hg.1 gb.1.1.1 ⟨gb.1.1.2.1, gb.2⟩ ga.1.1.1 ⟨ga.1.1.2.1, ga.2⟩
 have e : o = decide (Hid m l j i) := by
  rw [Bool.eq_iff_iff, e3, decide_eq_true_eq]
  exact Iff.rfl
 rw [← e]
 exact ⟨e1, e2⟩
theorem hidI {m : Int} {l : List S24} (hg : Good m l) {i j : Int} (h0 : 0 ≤ j) (h1 : j < (l.length : Int)) (h2 : 0 ≤ i) (h3 : i < (l.length : Int)) : impl_IsHidden.f m (rd_T24 l j).f0 (rd_T24 l j).f1 (rd_T24 l i).f0 (rd_T24 l i).f1 = some (decide (Hid m l j i), true) := by
 have ba := good_B hg h2 h3
 have bb := good_B hg h0 h1
 have e := (hid_at hg h0 h1 h2 h3).2
 unfold B at ba bb
 simp only [impl_IsHidden.f, both_impl, Option.bind_some, decide_eq_true_eq]
 rw [if_pos bb, if_pos ba, e]
 rfl
theorem hid_on (m : Int) (l : List S24) (hl : l.length ≤ 1000000000) (D : List Int) (hD : D.length ≤ 1000000) (i : Int) (hi : 0 ≤ i ∧ i < l.length) (a b : Int) (n : Nat) : ∀ (j : Int), 0 ≤ j → i - j = n →
  ∀ R, Ev (fun k => spec_HiddenPoles.l0 k m l (D ++ [i]) l (l.length : Int) (i + 1)) R → Ev (fun k => spec_HiddenPoles.l1 k m l D i true l (l.length : Int) i (l.take i.toNat) ((l.take i.toNat).length : Int) j a b) R := by
 have hlen : ((l.take i.toNat).length : Int) = i := by rw [List.length_take]; omega
 induction n with
 | zero =>
  intro j h0 h1 R hR
  refine Ev.step (fun k => ?_) hR
  simp only [spec_HiddenPoles.l1]
  rw [if_neg (by omega), if_pos trivial, if_pos (by omega), wrap_id (x := i + 1) (by omega) (by omega)]
 | succ n ih =>
  intro j h0 h1 R hR
  refine Ev.step (fun k => ?_) (ih (j + 1) (by omega) (by omega) R hR)
  simp only [spec_HiddenPoles.l1]
  rw [if_pos (by omega), if_pos h0, if_pos (by omega), if_pos trivial, wrap_id (x := j + 1) (by omega) (by omega)]
theorem hid_off (m : Int) (l : List S24) (hl : l.length ≤ 1000000000) (hg : Good m l) (D : List Int) (hD : D.length ≤ 1000000) (i : Int) (hi : 0 ≤ i ∧ i < l.length) (n : Nat) : ∀ (j : Int), 0 ≤ j → i - j = n →
  ∃ D' : List Int, ((D' = D ∧ ∀ x : Int, j ≤ x → x < i → ¬ Hid m l x i) ∨ (D' = D ++ [i] ∧ ∃ x : Int, j ≤ x ∧ x < i ∧ Hid m l x i)) ∧ (∀ R, Ev (fun k => spec_HiddenPoles.l0 k m l D' l (l.length : Int) (i + 1)) R → Ev (fun k => spec_HiddenPoles.l1 k m l D i false l (l.length : Int) i (l.take i.toNat) ((l.take i.toNat).length : Int) j (rd_T24 l i).f0 (rd_T24 l i).f1) R) ∧
   (∀ R, Ev (fun k => impl_HiddenPoles.l0 k m l D' l (l.length : Int) (i + 1)) R → Ev (fun k => impl_HiddenPoles.l1 k m l D i l (l.length : Int) i (l.take i.toNat) ((l.take i.toNat).length : Int) j (rd_T24 l i).f0 (rd_T24 l i).f1) R) := by
 have hlen : ((l.take i.toNat).length : Int) = i := by rw [List.length_take]; omega
 induction n with
 | zero =>
  intro j h0 h1
  refine ⟨D, .inl ⟨rfl, fun x x0 x1 => by omega⟩, fun R hR => Ev.step (fun k => ?_) hR, fun R hR => Ev.step (fun k => ?_) hR⟩
  ·simp only [spec_HiddenPoles.l1]
   rw [if_neg (by omega), if_neg (by simp), wrap_id (x := i + 1) (by omega) (by omega)]
  ·simp only [impl_HiddenPoles.l1]
   rw [if_neg (by omega), wrap_id (x := i + 1) (by omega) (by omega)]
 | succ n ih =>
  intro j h0 h1
  have hji : j < i := by omega
  obtain ⟨e1, e2⟩ := hid_at hg h0 (show j < (l.length : Int) by omega) hi.1 hi.2
  by_cases hh : Hid m l j i
  ·rw [decide_eq_true hh] at e1 e2
   refine ⟨D ++ [i], .inr ⟨rfl, j, by omega, hji, hh⟩, fun R hR => stepK 1000 (fun k hk => ?_) (hid_on m l hl D hD i hi (rd_T24 l i).f0 (rd_T24 l i).f1 n (j + 1) (by omega) (by omega) R hR), fun R hR => Ev.step (fun k => ?_) hR⟩
   ·simp only [spec_HiddenPoles.l1]
    rw [if_pos (by omega), if_pos h0, if_pos (by omega), if_neg (by simp), rd_take l i j h0 hji, e1 k hk, wrap_id (x := j + 1) (by omega) (by omega)]
    rfl
   ·simp only [impl_HiddenPoles.l1]
    rw [if_pos (by omega), if_pos h0, if_pos (by omega), rd_take l i j h0 hji, e2]
    simp only [Option.bind_some, if_true]
    rw [if_pos (by omega), wrap_id (x := i + 1) (by omega) (by omega)]
  ·rw [decide_eq_false hh] at e1 e2
   obtain ⟨D', hD', s1, s2⟩ := ih (j + 1) (by omega) (by omega)
   refine ⟨D', hD'.elim (fun h => .inl ⟨h.1, fun x x0 x1 => by
    by_cases e : x = j
    ·rw [e]; exact hh
    ·exact h.2 x (by omega) x1⟩) (fun h => .inr ⟨h.1, h.2.choose, by have := h.2.choose_spec; omega, h.2.choose_spec.2⟩), fun R hR => stepK 1000 (fun k hk => ?_) (s1 R hR), fun R hR => Ev.step (fun k => ?_) (s2 R hR)⟩
   ·simp only [spec_HiddenPoles.l1]
    rw [if_pos (by omega), if_pos h0, if_pos (by omega), if_neg (by simp), rd_take l i j h0 hji, e1 k hk, wrap_id (x := j + 1) (by omega) (by omega)]
    rfl
   ·simp only [impl_HiddenPoles.l1]
    rw [if_pos (by omega), if_pos h0, if_pos (by omega), rd_take l i j h0 hji, e2, wrap_id (x := j + 1) (by omega) (by omega)]
    simp
/-- A list of the numbers below i of which P holds, rising. -/
structure Lists (P : Int → Prop) (i : Int) (D : List Int) : Prop where
 mem : ∀ v : Int, v ∈ D ↔ 0 ≤ v ∧ v < i ∧ P v
 up : D.Pairwise (· < ·)
theorem Lists.step {P : Int → Prop} {i : Int} {D D' : List Int} (h : Lists P i D) (h0 : 0 ≤ i) (hs : (D' = D ∧ ¬ P i) ∨ (D' = D ++ [i] ∧ P i)) : Lists P (i + 1) D' := by
 rcases hs with ⟨rfl, hp⟩ | ⟨rfl, hp⟩
 ·refine ⟨fun v => ?_, h.up⟩
  rw [h.mem]
  exact ⟨fun ⟨a, b, c⟩ => ⟨a, by omega, c⟩, fun ⟨a, b, c⟩ => ⟨a, by
   by_cases e : v = i
   ·rw [e] at c; exact absurd c hp
   ·omega, c⟩⟩
 ·refine ⟨fun v => ?_, List.pairwise_append.2 ⟨h.up, List.pairwise_singleton _ _, fun x hx y hy => ?_⟩⟩
  ·rw [List.mem_append, h.mem, List.mem_singleton]
   constructor
   ·rintro (⟨a, b, c⟩ | rfl)
    ·exact ⟨a, by omega, c⟩
    ·exact ⟨h0, by omega, hp⟩
   ·rintro ⟨a, b, c⟩
    by_cases e : v = i
    ·exact .inr e
    ·exact .inl ⟨a, by omega, c⟩
  ·rw [List.mem_singleton.1 hy]
   exact ((h.mem x).1 hx).2.1
theorem hid_l0 (m : Int) (l : List S24) (hl : l.length ≤ 1000000000) (hg : Good m l) (n : Nat) : ∀ (D : List Int) (i : Int), 0 ≤ i → (l.length : Int) - i = n → D.length + n ≤ 1000 → Lists (fun v => ∃ x : Int, 0 ≤ x ∧ x < v ∧ Hid m l x v) i D →
  ∃ R : List Int, Ev (fun k => spec_HiddenPoles.l0 k m l D l (l.length : Int) i) (R, true) ∧ Ev (fun k => impl_HiddenPoles.l0 k m l D l (l.length : Int) i) (R, true) ∧ R.length ≤ 1000 ∧ Lists (fun v => ∃ x : Int, 0 ≤ x ∧ x < v ∧ Hid m l x v) (l.length : Int) R := by
 induction n with
 | zero =>
  intro D i h0 h1 h2 hL
  obtain rfl : i = (l.length : Int) := by omega
  refine ⟨D, Ev.step (f := fun _ => some (D, true)) (fun k => ?_) (Ev.now _), Ev.step (f := fun _ => some (D, true)) (fun k => ?_) (Ev.now _), by omega, hL⟩
  ·simp only [spec_HiddenPoles.l0]
   rw [if_neg (by omega)]
  ·simp only [impl_HiddenPoles.l0]
   rw [if_neg (by omega)]
 | succ n ih =>
  intro D i h0 h1 h2 hL
  have hlt : i < (l.length : Int) := by omega
  obtain ⟨D', hD', s1, s2⟩ := hid_off m l hl hg D (by omega) i ⟨h0, hlt⟩ i.toNat 0 (by omega) (by omega)
  have hlen : D'.length ≤ D.length + 1 := by
   rcases hD' with ⟨e, -⟩ | ⟨e, -⟩
   ·rw [e]; omega
   ·rw [e]; simp
  obtain ⟨R, r1, r2, r3, r4⟩ := ih D' (i + 1) (by omega) (by omega) (by omega) (hL.step h0 (hD'.elim (fun h => .inl ⟨h.1, fun ⟨x, x0, x1, x2⟩ => h.2 x x0 x1 x2⟩) (fun h => .inr h)))
  refine ⟨R, Ev.step (fun k => ?_) (s1 _ r1), Ev.step (fun k => ?_) (s2 _ r2), r3, r4⟩
  ·simp only [spec_HiddenPoles.l0, Option.bind_some]
   rw [if_pos hlt, if_pos h0, if_pos hlt, if_pos (by omega)]
  ·simp only [impl_HiddenPoles.l0, Option.bind_some]
   rw [if_pos hlt, if_pos h0, if_pos hlt, if_pos (by omega)]
theorem hid_ev (m : Int) (l : List S24) (hl : l.length ≤ 1000000000) : ∃ (R : List Int) (o : Bool), Ev (fun k => spec_HiddenPoles.f k m l) (R, o) ∧ Ev (fun k => impl_HiddenPoles.f k m l) (R, o) ∧ R.length ≤ 1000 ∧ (o = true ↔ Good m l) ∧ (o = true → Lists (fun v => ∃ x : Int, 0 ≤ x ∧ x < v ∧ Hid m l x v) (l.length : Int) R) := by
 obtain ⟨b, ⟨K1, h1⟩, ⟨K2, h2⟩, hb⟩ := good_ev m l hl
 cases b
 ·refine ⟨[], false, ⟨K1, fun k hk => ?_⟩, ⟨K2, fun k hk => ?_⟩, by simp, hb, fun h => by cases h⟩
  ·simp [spec_HiddenPoles.f, h1 k hk]
  ·simp [impl_HiddenPoles.f, h2 k hk]
 ·have hg := hb.1 rfl
  obtain ⟨R, e1, e2, e3, e4⟩ := hid_l0 m l hl hg l.length [] 0 (by omega) (by omega) (by have := hg.2.1; simp; omega) ⟨fun v => by simp; omega, List.Pairwise.nil⟩
  refine ⟨R, true, congrK K1 (fun k hk => ?_) e1, congrK K2 (fun k hk => ?_) e2, e3, hb, fun _ => e4⟩
  ·simp [spec_HiddenPoles.f, h1 k hk]
  ·simp [impl_HiddenPoles.f, h2 k hk]
/-- The place w is in the shadow of a pole. -/
def Dk (m : Int) (l : List S24) (w i : Int) : Prop := w > (rd_T24 l i).f0 ∧ w * (m - (rd_T24 l i).f1) ≤ (rd_T24 l i).f0 * m
instance (m : Int) (l : List S24) (w i : Int) : Decidable (Dk m l w i) := inferInstanceAs (Decidable (_ ∧ _))
theorem dk_wrap {m : Int} {l : List S24} (hg : Good m l) {w i : Int} (hw : 0 ≤ w ∧ w ≤ 1000) (h0 : 0 ≤ i) (h1 : i < (l.length : Int)) : wrap64 (w * wrap64 (m - (rd_T24 l i).f1)) = w * (m - (rd_T24 l i).f1) ∧ wrap64 ((rd_T24 l i).f0 * m) = (rd_T24 l i).f0 * m := by
 obtain ⟨n1, n2, n3, n4⟩ := bd _ _ _ (good_B hg h0 h1)
 have x := mulb (a := w) (b := m - (rd_T24 l i).f1) (A := 1000) (B := 199) hw.1 hw.2 (by omega) n4
 have hm := hg.1
 rw [wrap_id (x := m - (rd_T24 l i).f1) (by omega) (by omega)]
 exact ⟨wrap_id (by omega) (by omega), wrap_id (by omega) (by omega)⟩
theorem dark_on (m t : Int) (l : List S24) (hl : l.length ≤ 1000000000) (D : List Int) (hD : D.length ≤ 1000000) (w : Int) (hw : 0 ≤ w ∧ w ≤ 1000) (n : Nat) : ∀ (i : Int), 0 ≤ i → (l.length : Int) - i = n →
  ∀ R, Ev (fun k => spec_DarkPlaces.l0 k m l t (D ++ [w]) (w + 1)) R → Ev (fun k => spec_DarkPlaces.l1 k m l t D w true l (l.length : Int) i) R := by
 induction n with
 | zero =>
  intro i h0 h1 R hR
  refine Ev.step (fun k => ?_) hR
  simp only [spec_DarkPlaces.l1]
  rw [if_neg (by omega), if_pos trivial, if_pos (by omega), wrap_id (x := w + 1) (by omega) (by omega)]
 | succ n ih =>
  intro i h0 h1 R hR
  have hlt : i < (l.length : Int) := by omega
  refine Ev.step (fun k => ?_) (ih (i + 1) (by omega) (by omega) R hR)
  simp only [spec_DarkPlaces.l1]
  rw [if_pos hlt, if_pos h0, if_pos hlt, if_pos trivial, wrap_id (x := i + 1) (by omega) (by omega)]
theorem dark_off (m t : Int) (l : List S24) (hl : l.length ≤ 1000000000) (hg : Good m l) (D : List Int) (hD : D.length ≤ 1000000) (w : Int) (hw : 0 ≤ w ∧ w ≤ 1000) (n : Nat) : ∀ (i : Int), 0 ≤ i → (l.length : Int) - i = n →
  ∃ D' : List Int, ((D' = D ∧ ∀ x : Int, i ≤ x → x < l.length → ¬ Dk m l w x) ∨ (D' = D ++ [w] ∧ ∃ x : Int, i ≤ x ∧ x < l.length ∧ Dk m l w x)) ∧ (∀ R, Ev (fun k => spec_DarkPlaces.l0 k m l t D' (w + 1)) R → Ev (fun k => spec_DarkPlaces.l1 k m l t D w false l (l.length : Int) i) R) ∧
   (∀ R, Ev (fun k => impl_DarkPlaces.l0 k m l t D' (w + 1)) R → Ev (fun k => impl_DarkPlaces.l1 k m l t D w l (l.length : Int) i) R) := by
 induction n with
 | zero =>
  intro i h0 h1
  refine ⟨D, .inl ⟨rfl, fun x x0 x1 => by omega⟩, fun R hR => Ev.step (fun k => ?_) hR, fun R hR => Ev.step (fun k => ?_) hR⟩
  ·simp only [spec_DarkPlaces.l1]
   rw [if_neg (by omega), if_neg (by simp), wrap_id (x := w + 1) (by omega) (by omega)]
  ·simp only [impl_DarkPlaces.l1]
   rw [if_neg (by omega), wrap_id (x := w + 1) (by omega) (by omega)]
 | succ n ih =>
  intro i h0 h1
  have hlt : i < (l.length : Int) := by omega
  obtain ⟨w1, w2⟩ := dk_wrap hg hw h0 hlt
  have miss : ¬ Dk m l w i → ∃ D' : List Int, ((D' = D ∧ ∀ x : Int, i ≤ x → x < l.length → ¬ Dk m l w x) ∨ (D' = D ++ [w] ∧ ∃ x : Int, i ≤ x ∧ x < l.length ∧ Dk m l w x)) ∧ (∀ R, Ev (fun k => spec_DarkPlaces.l0 k m l t D' (w + 1)) R → Ev (fun k => spec_DarkPlaces.l1 k m l t D w false l (l.length : Int) (i + 1)) R) ∧
   (∀ R, Ev (fun k => impl_DarkPlaces.l0 k m l t D' (w + 1)) R → Ev (fun k => impl_DarkPlaces.l1 k m l t D w l (l.length : Int) (i + 1)) R) := fun hn => by
   obtain ⟨D', hD', e1, e2⟩ := ih (i + 1) (by omega) (by omega)
   exact ⟨D', hD'.elim (fun h => .inl ⟨h.1, fun x x0 x1 => by
    by_cases e : x = i
    ·rw [e]; exact hn
    ·exact h.2 x (by omega) x1⟩) (fun h => .inr ⟨h.1, h.2.choose, by have := h.2.choose_spec; omega, h.2.choose_spec.2⟩), e1, e2⟩
  by_cases c : w > (rd_T24 l i).f0
  ·by_cases c2 : w * (m - (rd_T24 l i).f1) ≤ (rd_T24 l i).f0 * m
   ·refine ⟨D ++ [w], .inr ⟨rfl, i, Int.le_refl _, hlt, c, c2⟩, fun R hR => Ev.step (fun k => ?_) (dark_on m t l hl D hD w hw n (i + 1) (by omega) (by omega) R hR), fun R hR => Ev.step (fun k => ?_) hR⟩
    ·simp only [spec_DarkPlaces.l1]
     rw [w1, w2, if_pos hlt, if_pos h0, if_pos hlt, if_neg (by simp), if_pos c, decide_eq_true c2, wrap_id (x := i + 1) (by omega) (by omega)]
    ·simp only [impl_DarkPlaces.l1]
     rw [w1, w2, if_pos hlt, if_pos h0, if_pos hlt, if_pos c, if_pos c2, if_pos (by omega), wrap_id (x := w + 1) (by omega) (by omega)]
   ·obtain ⟨D', hD', e1, e2⟩ := miss (fun h => c2 h.2)
    refine ⟨D', hD', fun R hR => Ev.step (fun k => ?_) (e1 R hR), fun R hR => Ev.step (fun k => ?_) (e2 R hR)⟩
    ·simp only [spec_DarkPlaces.l1]
     rw [w1, w2, if_pos hlt, if_pos h0, if_pos hlt, if_neg (by simp), if_pos c, decide_eq_false c2, wrap_id (x := i + 1) (by omega) (by omega)]
    ·simp only [impl_DarkPlaces.l1]
     rw [w1, w2, if_pos hlt, if_pos h0, if_pos hlt, if_pos c, if_neg c2, wrap_id (x := i + 1) (by omega) (by omega)]
  ·obtain ⟨D', hD', e1, e2⟩ := miss (fun h => c h.1)
   refine ⟨D', hD', fun R hR => Ev.step (fun k => ?_) (e1 R hR), fun R hR => Ev.step (fun k => ?_) (e2 R hR)⟩
   ·simp only [spec_DarkPlaces.l1]
    rw [if_pos hlt, if_pos h0, if_pos hlt, if_neg (by simp), if_neg c, wrap_id (x := i + 1) (by omega) (by omega)]
   ·simp only [impl_DarkPlaces.l1]
    rw [if_pos hlt, if_pos h0, if_pos hlt, if_neg c, wrap_id (x := i + 1) (by omega) (by omega)]
theorem dark_l0 (m t : Int) (ht : t ≤ 500) (l : List S24) (hl : l.length ≤ 1000000000) (hg : Good m l) (n : Nat) : ∀ (D : List Int) (w : Int), 0 ≤ w → w ≤ t + 1 → t + 1 - w ≤ n → D.length + n ≤ 1000 → Lists (fun v => ∃ x : Int, 0 ≤ x ∧ x < l.length ∧ Dk m l v x) w D →
  ∃ R : List Int, Ev (fun k => spec_DarkPlaces.l0 k m l t D w) (R, true) ∧ Ev (fun k => impl_DarkPlaces.l0 k m l t D w) (R, true) ∧ R.length ≤ 1000 ∧ Lists (fun v => ∃ x : Int, 0 ≤ x ∧ x < l.length ∧ Dk m l v x) (t + 1) R := by
 induction n with
 | zero =>
  intro D w h0 h1 h2 h3 hL
  obtain rfl : w = t + 1 := by omega
  refine ⟨D, Ev.step (f := fun _ => some (D, true)) (fun k => ?_) (Ev.now _), Ev.step (f := fun _ => some (D, true)) (fun k => ?_) (Ev.now _), by omega, hL⟩
  ·simp only [spec_DarkPlaces.l0]
   rw [if_neg (by omega)]
  ·simp only [impl_DarkPlaces.l0]
   rw [if_neg (by omega)]
 | succ n ih =>
  intro D w h0 h1 h2 h3 hL
  by_cases c : w ≤ t
  ·obtain ⟨D', hD', e1, e2⟩ := dark_off m t l hl hg D (by omega) w (by omega) l.length 0 (by omega) (by omega)
   have hlen : D'.length ≤ D.length + 1 := by
    rcases hD' with ⟨e, -⟩ | ⟨e, -⟩
    ·rw [e]; omega
    ·rw [e]; simp
   obtain ⟨R, r1, r2, r3, r4⟩ := ih D' (w + 1) (by omega) (by omega) (by omega) (by omega) (hL.step h0 (hD'.elim (fun h => .inl ⟨h.1, fun ⟨x, x0, x1, x2⟩ => h.2 x x0 x1 x2⟩) (fun h => .inr h)))
   refine ⟨R, Ev.step (fun k => ?_) (e1 _ r1), Ev.step (fun k => ?_) (e2 _ r2), r3, r4⟩
   ·simp only [spec_DarkPlaces.l0]
    rw [if_pos c]
   ·simp only [impl_DarkPlaces.l0]
    rw [if_pos c]
  ·obtain rfl : w = t + 1 := by omega
   refine ⟨D, Ev.step (f := fun _ => some (D, true)) (fun k => ?_) (Ev.now _), Ev.step (f := fun _ => some (D, true)) (fun k => ?_) (Ev.now _), by omega, hL⟩
   ·simp only [spec_DarkPlaces.l0]
    rw [if_neg c]
   ·simp only [impl_DarkPlaces.l0]
    rw [if_neg c]
theorem dark_ev (m t : Int) (l : List S24) (hl : l.length ≤ 1000000000) : ∃ (R : List Int) (o : Bool), Ev (fun k => spec_DarkPlaces.f k m l t) (R, o) ∧ Ev (fun k => impl_DarkPlaces.f k m l t) (R, o) ∧ R.length ≤ 1000 ∧ (o = true → Good m l ∧ Lists (fun v => ∃ x : Int, 0 ≤ x ∧ x < l.length ∧ Dk m l v x) (t + 1) R) := by
 obtain ⟨b, ⟨K1, h1⟩, ⟨K2, h2⟩, hb⟩ := good_ev m l hl
 by_cases c : 0 ≤ t ∧ t ≤ 500
 ·cases b
  ·refine ⟨[], false, ⟨K1 + 1, fun k hk => ?_⟩, ⟨K2 + 1, fun k hk => ?_⟩, by simp, fun h => by cases h⟩
   ·obtain ⟨k, rfl⟩ : ∃ m, k = m + 1 := ⟨k - 1, by omega⟩
    simp [spec_DarkPlaces.f, spec_DarkPlaces.j0, h1 (k + 1) (by omega)]
   ·obtain ⟨k, rfl⟩ : ∃ m, k = m + 1 := ⟨k - 1, by omega⟩
    simp [impl_DarkPlaces.f, impl_DarkPlaces.j0, h2 (k + 1) (by omega)]
  ·have hg := hb.1 rfl
   obtain ⟨R, e1, e2, e3, e4⟩ := dark_l0 m t c.2 l hl hg 501 [] 0 (by omega) (by omega) (by omega) (by simp) ⟨fun v => by simp; omega, List.Pairwise.nil⟩
   refine ⟨R, true, stepK K1 (fun k hk => ?_) e1, stepK K2 (fun k hk => ?_) e2, e3, fun _ => ⟨hg, e4⟩⟩
   ·simp [spec_DarkPlaces.f, spec_DarkPlaces.j0, h1 (k + 1) (by omega), in_eq, c]
   ·simp [impl_DarkPlaces.f, impl_DarkPlaces.j0, h2 (k + 1) (by omega), within_eq, c]
 ·have e : (!decide (0 ≤ t ∧ t ≤ 500)) = true := by simp only [c]; rfl
  refine ⟨[], false, ⟨K1 + 1, fun k hk => ?_⟩, ⟨K2 + 1, fun k hk => ?_⟩, by simp, fun h => by cases h⟩
  ·obtain ⟨k, rfl⟩ : ∃ m, k = m + 1 := ⟨k - 1, by omega⟩
   simp only [spec_DarkPlaces.f, h1 (k + 1) (by omega), in_eq, Option.bind_some, e, spec_DarkPlaces.j0]
   cases b <;> rfl
  ·obtain ⟨k, rfl⟩ : ∃ m, k = m + 1 := ⟨k - 1, by omega⟩
   simp only [impl_DarkPlaces.f, h2 (k + 1) (by omega), within_eq, Option.bind_some, e, impl_DarkPlaces.j0]
   cases b <;> rfl
theorem same_l (n : Nat) : ∀ (l : List Int) (i : Int), 0 ≤ i → (l.length : Int) - i = n → l.length ≤ 4000000 → Ev (fun k => laws_ySame.l0 k l l (l.length : Int) i) true := by
 induction n with
 | zero =>
  intro l i h0 h1 h2
  refine Ev.step (f := fun _ => some true) (fun k => ?_) (Ev.now _)
  simp only [laws_ySame.l0]
  rw [if_neg (by omega)]
 | succ n ih =>
  intro l i h0 h1 h2
  refine Ev.step (fun k => ?_) (ih l (i + 1) (by omega) (by omega) h2)
  simp only [laws_ySame.l0]
  rw [if_pos (by omega), if_pos h0, if_pos (by omega), if_pos (by omega), if_pos trivial, wrap_id (x := i + 1) (by omega) (by omega)]
theorem same_ev (l : List Int) (h : l.length ≤ 4000000) : Ev (fun k => laws_ySame.f k l l) true := by
 refine congrK 0 (f := fun k => laws_ySame.l0 k l l (l.length : Int) 0) (fun k _ => ?_) (same_l l.length l 0 (by omega) (by omega) h)
 simp only [laws_ySame.f]
 rw [if_pos trivial]
theorem low_div (x y : Int) (hx : 0 ≤ x) (hx2 : x ≤ 1000000) (hy : 0 < y) (hy2 : y ≤ 1000000) : ∃ p q : Int, (∀ k : Nat, y < k → spec_clLow.f k x y = some (p, q)) ∧ (q = 1 ↔ Int.tmod x y = 0) ∧ (q = 1 → p = Int.tdiv x y) := by
 obtain ⟨g, p, q, h1, h2, h3, h4, h5, h6, h7, h8, h9⟩ := low_sem (y.toNat + 1) x y hx (by omega) hy (by omega) (by omega)
 refine ⟨p, q, fun k hk => ?_, ⟨fun e => ?_, fun e => ?_⟩, fun e => ?_⟩
 ·obtain ⟨g', p', q', a1, a2, a3, a4, a5, a6, a7, a8, a9⟩ := low_sem k x y hx (by omega) hy (by omega) hk
  have eg : g' = g := by rw [a8, h8]
  subst eg
  have ep : p' = p := Int.eq_of_mul_eq_mul_left (by omega) (a2.symm.trans h2)
  have eq : q' = q := Int.eq_of_mul_eq_mul_left (by omega) (a3.symm.trans h3)
  rw [a9, ep, eq]
 ·subst e
  rw [Int.mul_one] at h3
  rw [h2, ← h3]
  exact Int.mul_tmod_right _ _
 ·obtain ⟨c, hc⟩ : y ∣ x := Int.dvd_of_tmod_eq_zero e
  have hg : (Int.gcd x y : Int) = y := by
   have d1 : y ∣ (Int.gcd x y : Int) := Int.dvd_coe_gcd ⟨c, hc⟩ (Int.dvd_refl y)
   have d2 : (Int.gcd x y : Int) ∣ y := Int.gcd_dvd_right ..
   exact Int.le_antisymm (Int.le_of_dvd hy d2) (Int.le_of_dvd (by omega) d1)
  rw [← h8] at hg
  rw [hg] at h3
  have : y * q = y * 1 := by rw [← h3, Int.mul_one]
  exact Int.eq_of_mul_eq_mul_left (by omega) this
 ·subst e
  rw [Int.mul_one] at h3
  rw [h2, ← h3]
  exact (Int.mul_tdiv_cancel_left p (by omega)).symm
/-- A whole shadow's row. -/
def WRow (a : Int) (x : List Int) : Prop := ∃ u v c : Int, x = [u, v, c] ∧ (1 ≤ u ∧ u ≤ 12) ∧ (1 ≤ v ∧ v < a) ∧ 1 ≤ c ∧ u * v = c * (a - v)
theorem row_c {x y : Int} (hx : 0 < x) (hy : 0 < y) (h : Int.tmod x y = 0) : 1 ≤ Int.tdiv x y ∧ x = Int.tdiv x y * y := by
 have hd := Int.mul_tdiv_add_tmod x y
 rw [h, Int.add_zero] at hd
 refine ⟨?_, by rw [Int.mul_comm]; exact hd.symm⟩
 rcases Int.lt_or_le 0 (Int.tdiv x y) with h1 | h1
 ·omega
 ·have := Int.mul_le_mul_of_nonneg_left h1 (Int.le_of_lt hy)
  omega
theorem inner (a x5 : Int) (ha : 2 ≤ a ∧ a ≤ 40) (h5 : 1 ≤ x5 ∧ x5 ≤ 12) (H : ∀ L : List (List Int), (L.length : Int) ≤ 40 * x5 → (∀ x ∈ L, WRow a x) → ∃ R : List (List Int), Ev (fun k => spec_WholeShadows.l0 k a L (x5 + 1)) (R, true) ∧ Ev (fun k => impl_WholeShadows.l0 k a L (x5 + 1)) (R, true) ∧ R.length ≤ 1000 ∧ (∀ x ∈ R, WRow a x)) (n : Nat) :
  ∀ (L : List (List Int)) (x6 : Int), a - x6 = n → 1 ≤ x6 → (L.length : Int) ≤ 40 * (x5 - 1) + (x6 - 1) → (∀ x ∈ L, WRow a x) → ∃ R : List (List Int), Ev (fun k => spec_WholeShadows.l1 k a L x5 x6) (R, true) ∧ Ev (fun k => impl_WholeShadows.l1 k a L x5 x6) (R, true) ∧ R.length ≤ 1000 ∧ (∀ x ∈ R, WRow a x) := by
 induction n with
 | zero =>
  intro L x6 h0 h1 h2 h3
  obtain ⟨R, e1, e2, e3, e4⟩ := H L (by omega) h3
  refine ⟨R, stepK 0 (fun k _ => ?_) e1, stepK 0 (fun k _ => ?_) e2, e3, e4⟩
  ·simp only [spec_WholeShadows.l1]
   rw [if_neg (by omega), wrap_id (by omega) (by omega)]
  ·simp only [impl_WholeShadows.l1]
   rw [if_neg (by omega), wrap_id (by omega) (by omega)]
 | succ n ih =>
  intro L x6 h0 h1 h2 h3
  have hb := mulb (a := x5) (b := x6) (A := 12) (B := 40) (by omega) (by omega) (by omega) (by omega)
  have hpos := Int.mul_pos (show 0 < x5 by omega) (show 0 < x6 by omega)
  obtain ⟨p, q, hl, hq, hp⟩ := low_div (x5 * x6) (a - x6) (by omega) (by omega) (by omega) (by omega)
  have w1 : wrap64 (x5 * x6) = x5 * x6 := wrap_id (by omega) (by omega)
  have w2 : wrap64 (a - x6) = a - x6 := wrap_id (by omega) (by omega)
  have w3 : wrap64 (x6 + 1) = x6 + 1 := wrap_id (by omega) (by omega)
  have hd : 0 ≤ Int.tdiv (x5 * x6) (a - x6) ∧ Int.tdiv (x5 * x6) (a - x6) ≤ x5 * x6 := by
   rw [Int.tdiv_eq_ediv_of_nonneg hb.1]
   exact ⟨Int.ediv_nonneg hb.1 (by omega), Int.ediv_le_self _ hb.1⟩
  have w4 : wrap64 (Int.tdiv (x5 * x6) (a - x6)) = Int.tdiv (x5 * x6) (a - x6) := wrap_id (by omega) (by omega)
  by_cases c : Int.tmod (x5 * x6) (a - x6) = 0
  ·have q1 := hq.2 c
   have p1 := hp q1
   by_cases c2 : Int.tdiv (x5 * x6) (a - x6) ≤ 12
   ·obtain ⟨R, e1, e2, e3, e4⟩ := ih (L ++ [([x5, x6, Int.tdiv (x5 * x6) (a - x6)] : List Int)]) (x6 + 1) (by omega) (by omega) (by rw [List.length_append]; simp; omega) (fun x hx => (List.mem_append.1 hx).elim (h3 x) (fun h => by rw [List.mem_singleton.1 h]; exact ⟨x5, x6, _, rfl, h5, by omega, row_c (by omega) (by omega) c⟩))
    refine ⟨R, stepK 100 (fun k hk => ?_) e1, stepK 0 (fun k _ => ?_) e2, e3, e4⟩
    ·simp only [spec_WholeShadows.l1]
     rw [if_pos (by omega), w1, w2, bind_eq (hl k (by omega)), w3]
     simp only []
     rw [if_pos q1, p1, if_pos c2, if_pos (by omega)]
    ·simp only [impl_WholeShadows.l1]
     rw [if_pos (by omega), w1, w2, w3, w4, if_neg (by omega), if_pos c, if_pos c2, if_pos (by omega)]
   ·obtain ⟨R, e1, e2, e3, e4⟩ := ih L (x6 + 1) (by omega) (by omega) (by omega) h3
    refine ⟨R, stepK 100 (fun k hk => ?_) e1, stepK 0 (fun k _ => ?_) e2, e3, e4⟩
    ·simp only [spec_WholeShadows.l1]
     rw [if_pos (by omega), w1, w2, bind_eq (hl k (by omega)), w3]
     simp only []
     rw [if_pos q1, p1, if_neg c2]
    ·simp only [impl_WholeShadows.l1]
     rw [if_pos (by omega), w1, w2, w3, w4, if_neg (by omega), if_pos c, if_neg c2]
  ·have q1 : ¬ q = 1 := fun h => c (hq.1 h)
   obtain ⟨R, e1, e2, e3, e4⟩ := ih L (x6 + 1) (by omega) (by omega) (by omega) h3
   refine ⟨R, stepK 100 (fun k hk => ?_) e1, stepK 0 (fun k _ => ?_) e2, e3, e4⟩
   ·simp only [spec_WholeShadows.l1]
    rw [if_pos (by omega), w1, w2, bind_eq (hl k (by omega)), w3]
    simp only []
    rw [if_neg q1]
   ·simp only [impl_WholeShadows.l1]
    rw [if_pos (by omega), w1, w2, w3, w4, if_neg (by omega), if_neg c]
theorem outer (a : Int) (ha : 2 ≤ a ∧ a ≤ 40) (n : Nat) : ∀ (L : List (List Int)) (x5 : Int), 13 - x5 = n → 1 ≤ x5 → (L.length : Int) ≤ 40 * (x5 - 1) → (∀ x ∈ L, WRow a x) → ∃ R : List (List Int), Ev (fun k => spec_WholeShadows.l0 k a L x5) (R, true) ∧ Ev (fun k => impl_WholeShadows.l0 k a L x5) (R, true) ∧ R.length ≤ 1000 ∧ (∀ x ∈ R, WRow a x) := by
 induction n with
 | zero =>
  intro L x5 h0 h1 h2 h3
  refine ⟨L, stepK 0 (f := fun _ => some (L, true)) (fun k _ => ?_) (Ev.now _), stepK 0 (f := fun _ => some (L, true)) (fun k _ => ?_) (Ev.now _), by omega, h3⟩
  ·simp only [spec_WholeShadows.l0]
   rw [if_neg (by omega)]
  ·simp only [impl_WholeShadows.l0]
   rw [if_neg (by omega)]
 | succ n ih =>
  intro L x5 h0 h1 h2 h3
  obtain ⟨R, e1, e2, e3, e4⟩ := inner a x5 ha (by omega) (fun L' h4 h5 => ih L' (x5 + 1) (by omega) (by omega) (by omega) h5) (a - 1).toNat L 1 (by omega) (by omega) (by omega) h3
  refine ⟨R, stepK 0 (fun k _ => ?_) e1, stepK 0 (fun k _ => ?_) e2, e3, e4⟩
  ·simp only [spec_WholeShadows.l0]
   rw [if_pos (by omega)]
  ·simp only [impl_WholeShadows.l0]
   rw [if_pos (by omega)]
theorem whole_ev (a : Int) : ∃ (R : List (List Int)) (o : Bool), R.length ≤ 1000 ∧ Ev (fun k => spec_WholeShadows.f k a) (R, o) ∧ Ev (fun k => impl_WholeShadows.f k a) (R, o) ∧ ∀ x ∈ R, (2 ≤ a ∧ a ≤ 40) ∧ WRow a x := by
 by_cases h : 2 ≤ a ∧ a ≤ 40
 ·obtain ⟨R, e1, e2, e3, e4⟩ := outer a h 12 [] 1 (by omega) (by omega) (by simp) (by simp)
  refine ⟨R, true, e3, congrK 0 (fun k _ => ?_) e1, congrK 0 (fun k _ => ?_) e2, fun x hx => ⟨h, e4 x hx⟩⟩
  ·simp only [spec_WholeShadows.f, in_eq, Option.bind_some]
   rw [if_pos (decide_eq_true h)]
  ·simp only [impl_WholeShadows.f, within_eq, Option.bind_some]
   rw [if_pos (decide_eq_true h)]
 ·refine ⟨[], false, by simp, ⟨0, fun k _ => ?_⟩, ⟨0, fun k _ => ?_⟩, by simp⟩
  ·simp only [spec_WholeShadows.f, in_eq, Option.bind_some]
   rw [if_neg (by simpa using h)]
  ·simp only [impl_WholeShadows.f, within_eq, Option.bind_some]
   rw [if_neg (by simpa using h)]
theorem whole_len (k : Nat) (hk : 2000000000 ≤ k) {a : Int} (ha : 2 ≤ a ∧ a ≤ 40) {x : List Int} (h : WRow a x) : x.length = 3 ∧ impl_ShadowLength.f k a (rd x 0) (rd x 1) = some (rd x 2, 1, true) := by
 obtain ⟨u, v, c, rfl, h1, h2, h3, h4⟩ := h
 refine ⟨rfl, ?_⟩
 show impl_ShadowLength.f k a u v = some (c, 1, true)
 rw [sLen k hk a u v ⟨by omega, ⟨by omega, by omega⟩, h2.2⟩, h4]
 obtain ⟨f1, f2⟩ := low_c1 c (a - v) h3 (by omega)
 rw [f1, f2]
end Go.Proofs.YtkhhlnpiogfofaaGreatDoor.SDBase
