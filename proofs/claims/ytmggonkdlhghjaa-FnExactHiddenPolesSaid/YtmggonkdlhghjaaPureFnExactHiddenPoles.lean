/- The plain law of FnExactHiddenPoles: for every argument the printed law function answers true. No condition beyond the statement's own. -/
import Derived.Test.YtmggonkdlhghjaaPFnExactHiddenPolesx6
set_option linter.unusedVariables false
set_option linter.unusedSimpArgs false
namespace Go.Proofs.Ytmggonkdlhghjaa.Pure
open Go.RowKit Go.Proofs.Ytmggonkdlhghjaa.PFnExactHiddenPoles Go.Proofs.YtmggonkdlhghjaaW.PrintWords Go.Proofs.YtmggonkdlhghjaaW.PrintLast Go.Proofs.YtmggonkdlhghjaaW.PrintMore
namespace FnExactHiddenPolesL
theorem wrap_id {x : Int} (h0 : -9223372036854775808 ≤ x) (h1 : x ≤ 9223372036854775807) : wrap64 x = x := by unfold wrap64; omega

theorem in_eq (a b c : Int) : spec_l1In.f a b c = some (decide (b ≤ a ∧ a ≤ c)) := by
  unfold spec_l1In.f
  by_cases h : a ≥ b
  · rw [if_pos h]; simp [h]
  · rw [if_neg h]; simp; omega

theorem within_eq (a b c : Int) : impl_within.f a b c = some (decide (b ≤ a ∧ a ≤ c)) := by
  unfold impl_within.f
  by_cases h : a ≥ b
  · rw [if_pos h]; simp [h]
  · rw [if_neg h]; simp; omega

theorem mulb {a b A B : Int} (ha : 0 ≤ a) (ha2 : a ≤ A) (hb : 0 ≤ b) (hb2 : b ≤ B) : 0 ≤ a * b ∧ a * b ≤ A * B :=
  ⟨Int.mul_nonneg ha hb, Int.mul_le_mul ha2 hb2 hb (by omega)⟩


theorem stepK {α : Type} {g f : Nat → Option α} {r : α} (K0 : Nat) (h : ∀ k, K0 ≤ k → g (k + 1) = f k) (hf : Ev f r) : Ev g r := by
  obtain ⟨K, hK⟩ := hf
  refine ⟨K + K0 + 1, fun k hk => ?_⟩
  obtain ⟨k, rfl⟩ : ∃ m, k = m + 1 := ⟨k - 1, by omega⟩
  rw [h k (by omega), hK k (by omega)]
theorem congrK {α : Type} {g f : Nat → Option α} {r : α} (K0 : Nat) (h : ∀ k, K0 ≤ k → g k = f k) (hf : Ev f r) : Ev g r := by
  obtain ⟨K, hK⟩ := hf
  exact ⟨K + K0, fun k hk => by rw [h k (by omega), hK k (by omega)]⟩

theorem bind_eq {α β : Type} {g : Option α} {a : α} (h : g = some a) (f : α → Option β) : g.bind f = f a := by rw [h]; rfl


theorem gcd_step {x y : Int} (hx : 0 ≤ x) (hy : 0 < y) : Int.gcd y (Int.tmod x y) = Int.gcd x y := by
  rw [Int.tmod_eq_emod_of_nonneg hx]
  obtain ⟨a, rfl⟩ := Int.eq_ofNat_of_zero_le hx
  obtain ⟨b, rfl⟩ := Int.eq_ofNat_of_zero_le (Int.le_of_lt hy)
  rw [← Int.natCast_emod, Int.gcd_natCast_natCast, Int.gcd_natCast_natCast, Nat.gcd_comm a b, Nat.gcd_rec b a, Nat.gcd_comm]

theorem tmod_bd {x y : Int} (hx : 0 ≤ x) (hy : 0 < y) : 0 ≤ Int.tmod x y ∧ Int.tmod x y < y := by
  rw [Int.tmod_eq_emod_of_nonneg hx]
  exact ⟨Int.emod_nonneg _ (by omega), Int.emod_lt_of_pos _ hy⟩


theorem low_ev (n : Nat) : ∀ (k : Nat) (p q x y : Int), 0 ≤ x → 0 ≤ y → y ≤ n → n < k → 0 < x + y →
    spec_clLow.l0 k p q x y = some (wrap64 (Int.tdiv p (Int.gcd x y : Int)), wrap64 (Int.tdiv q (Int.gcd x y : Int))) := by
  induction n with
  | zero =>
    intro k p q x y hx hy hn hk hs
    obtain ⟨k, rfl⟩ : ∃ m, k = m + 1 := ⟨k - 1, by omega⟩
    obtain rfl : y = 0 := by omega
    simp only [spec_clLow.l0]
    rw [if_neg (by omega), if_neg (by omega), Int.gcd_zero_right]
    have e : (x.natAbs : Int) = x := by omega
    rw [e]
  | succ n ih =>
    intro k p q x y hx hy hn hk hs
    obtain ⟨k, rfl⟩ : ∃ m, k = m + 1 := ⟨k - 1, by omega⟩
    simp only [spec_clLow.l0]
    by_cases h : y = 0
    · subst h
      rw [if_neg (by omega), if_neg (by omega), Int.gcd_zero_right]
      have e : (x.natAbs : Int) = x := by omega
      rw [e]
    · have hp : 0 < y := by omega
      have hb := tmod_bd hx hp
      rw [if_pos hp, if_neg h, ih k p q y (Int.tmod x y) hy hb.1 (by omega) (by omega) (by omega), gcd_step hx hp]


/-- What lowest terms are: both numbers by one common measure. -/
theorem cofactors {g x y : Int} (hg : g = (Int.gcd x y : Int)) (hx : 0 ≤ x) (hy : 0 < y) :
    ∃ p q : Int, 0 < g ∧ x = g * p ∧ y = g * q ∧ 0 ≤ p ∧ 1 ≤ q ∧ p ≤ x ∧ q ≤ y ∧ Int.tdiv x g = p ∧ Int.tdiv y g = q := by
  have hg0 : Int.gcd x y ≠ 0 := by
    intro h
    rw [Int.gcd_eq_zero_iff] at h
    omega
  have hgp : 0 < g := by omega
  obtain ⟨p, hp⟩ : g ∣ x := hg ▸ Int.gcd_dvd_left ..
  obtain ⟨q, hq⟩ : g ∣ y := hg ▸ Int.gcd_dvd_right ..
  have hp0 : 0 ≤ p := by
    by_cases h : 0 ≤ p
    · exact h
    · have := Int.mul_lt_mul_of_pos_left (show p < 0 by omega) hgp
      rw [Int.mul_zero] at this
      omega
  have hq1 : 1 ≤ q := by
    by_cases h : 0 < q
    · omega
    · have := Int.mul_nonneg (Int.le_of_lt hgp) (show 0 ≤ -q by omega)
      rw [Int.mul_neg] at this
      omega
  have hpx : p ≤ x := by
    have := Int.mul_le_mul_of_nonneg_right (show 1 ≤ g by omega) hp0
    rw [Int.one_mul] at this
    omega
  have hqy : q ≤ y := by
    have := Int.mul_le_mul_of_nonneg_right (show 1 ≤ g by omega) (show 0 ≤ q by omega)
    rw [Int.one_mul] at this
    omega
  exact ⟨p, q, hgp, hp, hq, hp0, hq1, hpx, hqy, Int.tdiv_eq_of_eq_mul_right (by omega) hp, Int.tdiv_eq_of_eq_mul_right (by omega) hq⟩

theorem low_sem (k : Nat) (x y : Int) (hx : 0 ≤ x) (hx2 : x ≤ 1000000000000000) (hy : 0 < y) (hy2 : y ≤ 1000000000000000) (hk : y < k) :
    ∃ g p q : Int, 0 < g ∧ x = g * p ∧ y = g * q ∧ 0 ≤ p ∧ 1 ≤ q ∧ p ≤ x ∧ q ≤ y ∧ g = (Int.gcd x y : Int) ∧ spec_clLow.f k x y = some (p, q) := by
  obtain ⟨p, q, h1, h2, h3, h4, h5, h6, h7, h8, h9⟩ := cofactors rfl hx hy
  refine ⟨_, p, q, h1, h2, h3, h4, h5, h6, h7, rfl, ?_⟩
  unfold spec_clLow.f
  rw [low_ev y.toNat k x y x y hx (by omega) (by omega) (by omega) (by omega), h8, h9, wrap_id (by omega) (by omega), wrap_id (by omega) (by omega)]


/-- The top of q stands below the line in lowest terms just where it stands below it. -/
theorem hides_iff {g p q x y c : Int} (hg : 0 < g) (hx : x = g * p) (hy : y = g * q) : c * q ≤ p ↔ c * y ≤ x := by
  rw [hx, hy]
  have e : c * (g * q) = g * (c * q) := by rw [← Int.mul_assoc, ← Int.mul_assoc, Int.mul_comm c g]
  rw [e]
  exact ⟨fun h => Int.mul_le_mul_of_nonneg_left h (by omega), fun h => Int.le_of_mul_le_mul_left h hg⟩

theorem hides_ev (l a b c d : Int) (hl : 2 ≤ l ∧ l ≤ 200) (ha : 1 ≤ a ∧ a ≤ 500) (hb : 1 ≤ b ∧ b < l) (hc : 1 ≤ c ∧ c ≤ 500) (hd : 1 ≤ d ∧ d < l) :
    ∃ o : Bool, (∀ k, 1000 ≤ k → spec_swHides.f k l a b c d = some o) ∧ impl_isHidden.f l a b c d = some o ∧ (o = true ↔ a < c ∧ d * a ≤ l * a - (l - b) * c) := by
  have m1 := mulb (a := l) (b := a) (A := 200) (B := 500) (by omega) (by omega) (by omega) (by omega)
  have m2 := mulb (a := l - b) (b := c) (A := 200) (B := 500) (by omega) (by omega) (by omega) (by omega)
  have m3 := mulb (a := d) (b := a) (A := 200) (B := 500) (by omega) (by omega) (by omega) (by omega)
  have m4 : 1 ≤ d * a := by
    have := Int.mul_le_mul (show 1 ≤ d by omega) (show 1 ≤ a by omega) (by omega) (by omega)
    omega
  have w1 := wrap_id (x := l * a) (by omega) (by omega)
  have w2 := wrap_id (x := l - b) (by omega) (by omega)
  have w3 := wrap_id (x := (l - b) * c) (by omega) (by omega)
  have w4 := wrap_id (x := l * a - (l - b) * c) (by omega) (by omega)
  have w5 := wrap_id (x := d * a) (by omega) (by omega)
  refine ⟨decide (a < c ∧ d * a ≤ l * a - (l - b) * c), fun k hk => ?_, ?_, by rw [decide_eq_true_eq]⟩
  · simp only [spec_swHides.f, spec_swHeight.f, w1, w2, w3, w4]
    by_cases hz : l * a - (l - b) * c ≤ 0
    · rw [if_pos hz]
      simp only [Option.bind_some]
      rw [wrap_id (x := d * 1) (by omega) (by omega)]
      by_cases hp : c > a
      · rw [if_pos hp]
        congr 1
        rw [Bool.eq_iff_iff, decide_eq_true_eq, decide_eq_true_eq]
        omega
      · rw [if_neg hp]
        congr 1
        symm
        rw [decide_eq_false_iff_not]
        omega
    · rw [if_neg hz]
      obtain ⟨g, p, q, g0, gx, gy, p0, q0, px, qy, _, e⟩ := low_sem k (l * a - (l - b) * c) a (by omega) (by omega) (by omega) (by omega) (by omega)
      rw [e]
      simp only [Option.bind_some]
      have m5 := mulb (a := d) (b := q) (A := 200) (B := 500) (by omega) (by omega) (by omega) (by omega)
      rw [wrap_id (x := d * q) (by omega) (by omega)]
      have hi := hides_iff (c := d) g0 gx gy
      by_cases hp : c > a
      · rw [if_pos hp]
        congr 1
        rw [Bool.eq_iff_iff, decide_eq_true_eq, decide_eq_true_eq, hi]
        exact ⟨fun x => ⟨hp, x⟩, fun x => x.2⟩
      · rw [if_neg hp]
        congr 1
        symm
        rw [decide_eq_false_iff_not]
        omega
  · simp only [impl_isHidden.f, w1, w2, w3, w4, w5]
    by_cases hp : c > a
    · rw [if_pos hp]
      congr 1
      rw [Bool.eq_iff_iff, decide_eq_true_eq, decide_eq_true_eq]
      exact ⟨fun x => ⟨hp, x⟩, fun x => x.2⟩
    · rw [if_neg hp]
      congr 1
      symm
      rw [decide_eq_false_iff_not]
      omega


theorem pole_spec (a b : Int) : spec_swPole.f a b = some (decide ((1 ≤ a ∧ a ≤ 500) ∧ (1 ≤ b ∧ b ≤ 200))) := by
  simp only [spec_swPole.f, in_eq, Option.bind_some, decide_eq_true_eq]
  by_cases h : 1 ≤ a ∧ a ≤ 500 <;> simp [h]

theorem pole_impl (a b : Int) : impl_isPole.f a b = some (decide ((1 ≤ a ∧ a ≤ 500) ∧ (1 ≤ b ∧ b ≤ 200))) := by
  simp only [impl_isPole.f, impl_isPlace.f, impl_isHigh.f, within_eq, Option.bind_some, decide_eq_true_eq]
  by_cases h : 1 ≤ a ∧ a ≤ 500 <;> simp [h]


theorem both_impl (l a b : Int) : impl_isPoleOf.f l a b = some (decide ((2 ≤ l ∧ l ≤ 200) ∧ ((1 ≤ a ∧ a ≤ 500) ∧ (1 ≤ b ∧ b ≤ 200)) ∧ b < l)) := by
  simp only [impl_isPoleOf.f, impl_isLamp.f, pole_impl, within_eq, Option.bind_some, decide_eq_true_eq]
  by_cases h : 2 ≤ l ∧ l ≤ 200 <;> by_cases h2 : ((1 ≤ a ∧ a ≤ 500) ∧ (1 ≤ b ∧ b ≤ 200)) <;> simp [h, h2]



def conv (p : S63) : S61 := ⟨p.f0, p.f1⟩

theorem toPoleS_l (b : List S63) : ∀ (a : List S63), (a ++ b).length ≤ 1000000000 → Ev (fun k => laws_toPoleS.l0 k (a ++ b) (a.map conv ++ List.replicate b.length z61) (a.length : Int)) ((a ++ b).map conv) := by
  induction b with
  | nil =>
    intro a h
    refine Ev.step (f := fun _ => some ((a ++ []).map conv)) (fun k => ?_) (Ev.now _)
    simp only [laws_toPoleS.l0]
    rw [if_neg (by simp)]
    simp
  | cons p b ih =>
    intro a h
    have ih2 := ih (a ++ [p]) (by simpa using h)
    simp only [List.length_append, List.length_cons] at h
    rw [List.append_assoc, List.singleton_append] at ih2
    refine Ev.step (fun k => ?_) ih2
    simp only [laws_toPoleS.l0, laws_toPole.f, Option.bind_some]
    rw [if_pos (by simp only [List.length_append, List.length_cons]; omega), if_pos (by omega), if_pos (by simp only [List.length_append, List.length_map, List.length_replicate, List.length_cons]; omega), wrap_id (x := (a.length : Int) + 1) (by omega) (by omega)]
    have e1 : rd_T63 (a ++ p :: b) (a.length : Int) = p := by
      unfold rd_T63
      simp
    rw [e1]
    have e2 : (a.map conv ++ List.replicate (p :: b).length z61).set ((a.length : Int)).toNat (⟨p.f0, p.f1⟩ : S61) = (a ++ [p]).map conv ++ List.replicate b.length z61 := by
      rw [Int.toNat_natCast, List.set_append_right _ _ (by simp)]
      simp [List.replicate_succ, conv]
    rw [e2]
    simp

theorem toPoleS_ev (l : List S63) (h : l.length ≤ 1000000000) : Ev (fun k => laws_toPoleS.f k l) (l.map conv) := by
  refine Ev.congr (fun k => ?_) (toPoleS_l l [] (by simpa using h))
  unfold laws_toPoleS.f
  rw [if_pos (by omega), if_pos (by omega)]
  simp

theorem szPoleS_ev (l : List S63) (h : l.length * 16 ≤ 140737488351232) : laws_szPoleS.f l 1048576 = some (if (1048576 - (l.length : Int)) < 0 then -1 else 1048576 - (l.length : Int)) := by
  unfold laws_szPoleS.f
  rw [wrap_id (by omega) (by omega)]
  by_cases c : 1048576 - (l.length : Int) < 0
  · rw [if_pos c, if_pos c]
  · rw [if_neg c, if_neg c]


theorem eqPoleS_l (n : Nat) : ∀ (l : List S61) (i : Int), 0 ≤ i → (l.length : Int) - i = n → l.length ≤ 1000000000000 → Ev (fun k => laws_eqPoleS.l0 k l l i) true := by
  induction n with
  | zero =>
    intro l i h0 h1 h2
    refine Ev.step (f := fun _ => some true) (fun k => ?_) (Ev.now true)
    simp only [laws_eqPoleS.l0]
    rw [if_neg (by omega)]
  | succ n ih =>
    intro l i h0 h1 h2
    refine Ev.step (f := fun k => laws_eqPoleS.l0 k l l (i + 1)) (fun k => ?_) (ih l (i + 1) (by omega) (by omega) h2)
    simp only [laws_eqPoleS.l0, laws_eqPole.f]
    rw [if_pos (show i < (l.length : Int) by omega), if_pos h0, wrap_id (x := i + 1) (by omega) (by omega)]
    simp
    try omega

theorem eqPoleS_ev (l : List S61) (h : l.length ≤ 1000000000000) : Ev (fun k => laws_eqPoleS.f k l l) true := by
  refine Ev.congr (f := fun k => laws_eqPoleS.l0 k l l 0) (fun k => ?_) (eqPoleS_l l.length l 0 (by omega) (by omega) h)
  unfold laws_eqPoleS.f
  rw [if_pos rfl]

theorem rd_T61_set (l : List S61) (i j : Int) (v : S61) (h0 : 0 ≤ i) (h1 : i < l.length) (hj : 0 ≤ j) : rd_T61 (l.set i.toNat v) j = if j = i then v else rd_T61 l j := by
  unfold rd_T61
  rw [List.getD_eq_getElem?_getD, List.getD_eq_getElem?_getD, List.getElem?_set]
  by_cases h : j = i
  · subst h
    rw [if_pos rfl, if_pos rfl, if_pos (by omega)]
    rfl
  · rw [if_neg (by omega), if_neg h]

theorem markPoleS_l (n : Nat) : ∀ (l : List S61) (m i : Int), 0 ≤ i → (l.length : Int) - i = n → l.length ≤ 1000000000000 → 0 ≤ m → m ≤ 1000000000000000 - 2 * n →
    ∃ L : List S61, Ev (fun k => laws_markPoleS.l0 k l m i) (m + 2 * n, L) ∧ L.length = l.length ∧ (∀ j, 0 ≤ j → j < i → rd_T61 L j = rd_T61 l j) ∧ ∀ j, i ≤ j → j < l.length → (rd_T61 L j).f0 = m + 2 * (j - i) + 0 ∧ (rd_T61 L j).f1 = m + 2 * (j - i) + 1 := by
  induction n with
  | zero =>
    intro l m i h0 h1 h2 h3 h4
    refine ⟨l, Ev.step (f := fun _ => some (m, l)) (fun k => ?_) ?_, rfl, fun _ _ _ => rfl, fun j ha hb => by omega⟩
    · simp only [laws_markPoleS.l0]
      rw [if_neg (by omega)]
    · have e : m + 2 * ((0 : Nat) : Int) = m := by omega
      rw [e]; exact Ev.now _
  | succ n ih =>
    intro l m i h0 h1 h2 h3 h4
    have hlt : i < (l.length : Int) := by omega
    obtain ⟨L, he, hl, ha, hb⟩ := ih (l.set i.toNat (⟨m, m + 1⟩ : S61)) (m + 2) (i + 1) (by omega) (by rw [List.length_set]; omega) (by rw [List.length_set]; exact h2) (by omega) (by omega)
    rw [List.length_set] at hl hb
    refine ⟨L, ?_, hl, fun j hj1 hj2 => ?_, fun j hj1 hj2 => ?_⟩
    · rw [show m + 2 * ((n + 1 : Nat) : Int) = m + 2 + 2 * (n : Int) by omega]
      refine Ev.step (f := fun k => laws_markPoleS.l0 k (l.set i.toNat (⟨m, m + 1⟩ : S61)) (m + 2) (i + 1)) (fun k => ?_) he
      simp only [laws_markPoleS.l0, Option.bind_some]
      rw [if_pos hlt, if_pos h0]
      rw [wrap_id (x := m + 1) (by omega) (by omega), wrap_id (x := m + 1 + 1) (by omega) (by omega), wrap_id (x := i + 1) (by omega) (by omega)]
      have e1 := rd_T61_set l i i (⟨m, (rd_T61 l i).f1⟩ : S61) h0 hlt h0
      rw [if_pos rfl] at e1
      rw [e1, show m + 1 + 1 = m + 2 by omega]
      simp only [List.set_set]
    · rw [ha j hj1 (by omega), rd_T61_set l i j _ h0 hlt hj1, if_neg (by omega)]
    · by_cases e : j = i
      · subst e
        rw [ha j h0 (by omega), rd_T61_set l j j _ h0 hlt h0, if_pos rfl]
        simp
        try omega
      · have := hb j (by omega) hj2
        omega

/-- Marking tells a number that isn't less than 0. -/
theorem markPoleS_ev (l : List S61) (h : l.length ≤ 1000000000) :
    ∃ (m : Int) (L : List S61), 0 ≤ m ∧ Ev (fun k => laws_markPoleS.f k l 1) (m, L) := by
  obtain ⟨L, he, hl, _, hb⟩ := markPoleS_l l.length l 1 0 (by omega) (by omega) (by omega) (by omega) (by omega)
  exact ⟨_, L, by omega, he⟩

theorem eqIntS_l (n : Nat) : ∀ (l : List Int) (i : Int), 0 ≤ i → (l.length : Int) - i = n → l.length ≤ 1000000000000 → Ev (fun k => laws_eqIntS.l0 k l l i) true := by
  induction n with
  | zero =>
    intro l i h0 h1 h2
    refine Ev.step (f := fun _ => some true) (fun k => ?_) (Ev.now true)
    simp only [laws_eqIntS.l0]
    rw [if_neg (by omega)]
  | succ n ih =>
    intro l i h0 h1 h2
    refine Ev.step (f := fun k => laws_eqIntS.l0 k l l (i + 1)) (fun k => ?_) (ih l (i + 1) (by omega) (by omega) h2)
    simp only [laws_eqIntS.l0]
    rw [if_pos (show i < (l.length : Int) by omega), if_pos h0, wrap_id (x := i + 1) (by omega) (by omega)]
    simp
    try omega

theorem eqIntS_ev (l : List Int) (h : l.length ≤ 1000000000000) : Ev (fun k => laws_eqIntS.f k l l) true := by
  refine Ev.congr (f := fun k => laws_eqIntS.l0 k l l 0) (fun k => ?_) (eqIntS_l l.length l 0 (by omega) (by omega) h)
  unfold laws_eqIntS.f
  rw [if_pos rfl]

theorem rd_set (l : List Int) (i j : Int) (v : Int) (h0 : 0 ≤ i) (h1 : i < l.length) (hj : 0 ≤ j) : rd (l.set i.toNat v) j = if j = i then v else rd l j := by
  unfold rd
  rw [List.getD_eq_getElem?_getD, List.getD_eq_getElem?_getD, List.getElem?_set]
  by_cases h : j = i
  · subst h
    rw [if_pos rfl, if_pos rfl, if_pos (by omega)]
    rfl
  · rw [if_neg (by omega), if_neg h]

theorem markIntS_l (n : Nat) : ∀ (l : List Int) (m i : Int), 0 ≤ i → (l.length : Int) - i = n → l.length ≤ 1000000000000 → 0 ≤ m → m ≤ 1000000000000000 - 1 * n →
    ∃ L : List Int, Ev (fun k => laws_markIntS.l0 k l m i) (m + 1 * n, L) ∧ L.length = l.length ∧ (∀ j, 0 ≤ j → j < i → rd L j = rd l j) ∧ ∀ j, i ≤ j → j < l.length → rd L j = m + 1 * (j - i) + 0 := by
  induction n with
  | zero =>
    intro l m i h0 h1 h2 h3 h4
    refine ⟨l, Ev.step (f := fun _ => some (m, l)) (fun k => ?_) ?_, rfl, fun _ _ _ => rfl, fun j ha hb => by omega⟩
    · simp only [laws_markIntS.l0]
      rw [if_neg (by omega)]
    · have e : m + 1 * ((0 : Nat) : Int) = m := by omega
      rw [e]; exact Ev.now _
  | succ n ih =>
    intro l m i h0 h1 h2 h3 h4
    have hlt : i < (l.length : Int) := by omega
    obtain ⟨L, he, hl, ha, hb⟩ := ih (l.set i.toNat (m : Int)) (m + 1) (i + 1) (by omega) (by rw [List.length_set]; omega) (by rw [List.length_set]; exact h2) (by omega) (by omega)
    rw [List.length_set] at hl hb
    refine ⟨L, ?_, hl, fun j hj1 hj2 => ?_, fun j hj1 hj2 => ?_⟩
    · rw [show m + 1 * ((n + 1 : Nat) : Int) = m + 1 + 1 * (n : Int) by omega]
      refine Ev.step (f := fun k => laws_markIntS.l0 k (l.set i.toNat (m : Int)) (m + 1) (i + 1)) (fun k => ?_) he
      simp only [laws_markIntS.l0, Option.bind_some]
      rw [if_pos hlt, if_pos h0]
      rw [wrap_id (x := m + 1) (by omega) (by omega), wrap_id (x := i + 1) (by omega) (by omega)]
    · rw [ha j hj1 (by omega), rd_set l i j _ h0 hlt hj1, if_neg (by omega)]
    · by_cases e : j = i
      · subst e
        rw [ha j h0 (by omega), rd_set l j j _ h0 hlt h0, if_pos rfl]
        simp
        try omega
      · have := hb j (by omega) hj2
        omega

theorem heldIntS_l (n : Nat) : ∀ (l : List Int) (m i : Int), 0 ≤ i → (l.length : Int) - i = n → l.length ≤ 1000000000000 → 0 ≤ m → m ≤ 1000000000000000 - 1 * n →
    (∀ j, i ≤ j → j < l.length → rd l j = m + 1 * (j - i) + 0) → Ev (fun k => laws_heldIntS.l0 k l m i) (m + 1 * n) := by
  induction n with
  | zero =>
    intro l m i h0 h1 h2 h3 h4 h5
    refine Ev.step (f := fun _ => some m) (fun k => ?_) ?_
    · simp only [laws_heldIntS.l0]
      rw [if_neg (by omega)]
    · have e : m + 1 * ((0 : Nat) : Int) = m := by omega
      rw [e]; exact Ev.now _
  | succ n ih =>
    intro l m i h0 h1 h2 h3 h4 h5
    have hlt : i < (l.length : Int) := by omega
    have hi := h5 i (by omega) hlt
    rw [show m + 1 * ((n + 1 : Nat) : Int) = m + 1 + 1 * (n : Int) by omega]
    refine Ev.step (f := fun k => laws_heldIntS.l0 k l (m + 1) (i + 1)) (fun k => ?_) (ih l (m + 1) (i + 1) (by omega) (by omega) h2 (by omega) (by omega) (fun j hj1 hj2 => by have := h5 j (by omega) hj2; omega))
    simp only [laws_heldIntS.l0]
    rw [if_pos hlt, if_pos h0]
    rw [if_pos (by omega), wrap_id (x := m + 1) (by omega) (by omega), wrap_id (x := i + 1) (by omega) (by omega)]

/-- What is marked is held, as often as it is asked. -/
theorem markIntS_ev (l : List Int) (h : l.length ≤ 1000000000) :
    ∃ (m : Int) (L : List Int), 0 ≤ m ∧ Ev (fun k => laws_markIntS.f k l 1) (m, L) ∧ Ev (fun k => laws_heldIntS.f k L 1) m := by
  obtain ⟨L, he, hl, _, hb⟩ := markIntS_l l.length l 1 0 (by omega) (by omega) (by omega) (by omega) (by omega)
  have hh := heldIntS_l l.length L 1 0 (by omega) (by omega) (by omega) (by omega) (by omega) (fun j hj1 hj2 => hb j hj1 (by omega))
  exact ⟨_, L, by omega, he, hh⟩

/-- What both sides take for poles of a lamp. -/
def OkRow (l : List S61) (j : Int) : Prop := ((1 ≤ (rd_T61 l j).f0 ∧ (rd_T61 l j).f0 ≤ 500) ∧ (1 ≤ (rd_T61 l j).f1 ∧ (rd_T61 l j).f1 ≤ 200)) ∧ (0 < j → (rd_T61 l (j - 1)).f0 < (rd_T61 l j).f0)
def Good (m : Int) (l : List S61) : Prop := (2 ≤ m ∧ m ≤ 200) ∧ (1 ≤ (l.length : Int) ∧ (l.length : Int) ≤ 6) ∧ ∀ j : Int, 0 ≤ j → j < l.length → OkRow l j ∧ (rd_T61 l j).f1 < m

theorem row_l (n : Nat) : ∀ (l : List S61) (i : Int), 0 ≤ i → (l.length : Int) - i = n → l.length ≤ 1000000000 → ∃ b : Bool, Ev (fun k => spec_swRow.l0 k l l (l.length : Int) i) b ∧ (b = true ↔ ∀ j, i ≤ j → j < l.length → OkRow l j) := by
  induction n with
  | zero =>
    intro l i h0 h1 h2
    refine ⟨true, Ev.step (f := fun _ => some true) (fun k => ?_) (Ev.now _), by simp; intro j _ _; omega⟩
    simp only [spec_swRow.l0]
    rw [if_neg (by omega)]
  | succ n ih =>
    intro l i h0 h1 h2
    obtain ⟨b, hb, hi⟩ := ih l (i + 1) (by omega) (by omega) h2
    have hlt : i < (l.length : Int) := by omega
    by_cases c : (1 ≤ (rd_T61 l i).f0 ∧ (rd_T61 l i).f0 ≤ 500) ∧ (1 ≤ (rd_T61 l i).f1 ∧ (rd_T61 l i).f1 ≤ 200)
    · by_cases c2 : 0 < i ∧ (rd_T61 l i).f0 ≤ (rd_T61 l (i - 1)).f0
      · refine ⟨false, Ev.step (f := fun _ => some false) (fun k => ?_) (Ev.now _), ?_⟩
        · simp only [spec_swRow.l0, pole_spec, Option.bind_some, decide_eq_true_eq]
          rw [if_pos hlt, if_pos h0, if_pos hlt, if_pos c, if_pos c2.1, wrap_id (x := i - 1) (by omega) (by omega), if_pos (by omega), if_pos (by omega), if_pos c2.2]
        · simp only [Bool.false_eq_true, false_iff]
          intro H
          have := (H i (by omega) hlt).2 c2.1
          omega
      · refine ⟨b, Ev.step (fun k => ?_) hb, ?_⟩
        · simp only [spec_swRow.l0, pole_spec, Option.bind_some, decide_eq_true_eq]
          rw [if_pos hlt, if_pos h0, if_pos hlt, if_pos c, wrap_id (x := i + 1) (by omega) (by omega)]
          by_cases c3 : i > 0
          · rw [if_pos c3, wrap_id (x := i - 1) (by omega) (by omega), if_pos (by omega), if_pos (by omega), if_neg (fun h => c2 ⟨c3, h⟩)]
          · rw [if_neg c3]
        · rw [hi]
          constructor
          · intro H j h3 h4
            by_cases e : j = i
            · subst e
              exact ⟨c, fun hp => by omega⟩
            · exact H j (by omega) h4
          · intro H j h3 h4
            exact H j (by omega) h4
    · refine ⟨false, Ev.step (f := fun _ => some false) (fun k => ?_) (Ev.now _), ?_⟩
      · simp only [spec_swRow.l0, pole_spec, Option.bind_some, decide_eq_true_eq]
        rw [if_pos hlt, if_pos h0, if_pos hlt, if_neg c]
      · simp only [Bool.false_eq_true, false_iff]
        intro H
        exact c (H i (by omega) hlt).1

theorem low_l (m : Int) (n : Nat) : ∀ (l : List S61) (i : Int), 0 ≤ i → (l.length : Int) - i = n → l.length ≤ 1000000000 → ∃ b : Bool, Ev (fun k => spec_swGood.l0 k m l (l.length : Int) i) b ∧ (b = true ↔ ∀ j, i ≤ j → j < l.length → (rd_T61 l j).f1 < m) := by
  induction n with
  | zero =>
    intro l i h0 h1 h2
    refine ⟨true, Ev.step (f := fun _ => some true) (fun k => ?_) (Ev.now _), by simp; intro j _ _; omega⟩
    simp only [spec_swGood.l0]
    rw [if_neg (by omega)]
  | succ n ih =>
    intro l i h0 h1 h2
    obtain ⟨b, hb, hi⟩ := ih l (i + 1) (by omega) (by omega) h2
    have hlt : i < (l.length : Int) := by omega
    by_cases c : (rd_T61 l i).f1 ≥ m
    · refine ⟨false, Ev.step (f := fun _ => some false) (fun k => ?_) (Ev.now _), ?_⟩
      · simp only [spec_swGood.l0]
        rw [if_pos hlt, if_pos h0, if_pos hlt, if_pos c]
      · simp only [Bool.false_eq_true, false_iff]
        intro H
        have := H i (by omega) hlt
        omega
    · refine ⟨b, Ev.step (fun k => ?_) hb, ?_⟩
      · simp only [spec_swGood.l0]
        rw [if_pos hlt, if_pos h0, if_pos hlt, if_neg c, wrap_id (x := i + 1) (by omega) (by omega)]
      · rw [hi]
        constructor
        · intro H j h3 h4
          by_cases e : j = i
          · subst e; omega
          · exact H j (by omega) h4
        · intro H j h3 h4
          exact H j (by omega) h4

theorem are_l (m : Int) (n : Nat) : ∀ (l : List S61) (i : Int), 0 ≤ i → (l.length : Int) - i = n → l.length ≤ 1000000000 →
    ∃ b : Bool, Ev (fun k => impl_ArePoles.l0 k m l l (l.length : Int) i) b ∧ (b = true ↔ (∀ j, i ≤ j → j < l.length → (2 ≤ m ∧ m ≤ 200) ∧ OkRow l j ∧ (rd_T61 l j).f1 < m) ∧ (1 ≤ (l.length : Int) ∧ (l.length : Int) ≤ 6)) := by
  induction n with
  | zero =>
    intro l i h0 h1 h2
    refine ⟨decide (1 ≤ (l.length : Int) ∧ (l.length : Int) ≤ 6), Ev.step (f := fun _ => some (decide (1 ≤ (l.length : Int) ∧ (l.length : Int) ≤ 6))) (fun k => ?_) (Ev.now _), ?_⟩
    · simp only [impl_ArePoles.l0, within_eq, Option.bind_some]
      rw [if_neg (by omega)]
    · rw [decide_eq_true_eq]
      exact ⟨fun h => ⟨fun j _ _ => by omega, h⟩, fun h => h.2⟩
  | succ n ih =>
    intro l i h0 h1 h2
    obtain ⟨b, hb, hi⟩ := ih l (i + 1) (by omega) (by omega) h2
    have hlt : i < (l.length : Int) := by omega
    by_cases c : (2 ≤ m ∧ m ≤ 200) ∧ ((1 ≤ (rd_T61 l i).f0 ∧ (rd_T61 l i).f0 ≤ 500) ∧ (1 ≤ (rd_T61 l i).f1 ∧ (rd_T61 l i).f1 ≤ 200)) ∧ (rd_T61 l i).f1 < m
    · by_cases c2 : 0 < i ∧ (rd_T61 l i).f0 ≤ (rd_T61 l (i - 1)).f0
      · refine ⟨false, Ev.step (f := fun _ => some false) (fun k => ?_) (Ev.now _), ?_⟩
        · simp only [impl_ArePoles.l0, both_impl, Option.bind_some, decide_eq_true_eq]
          rw [if_pos hlt, if_pos h0, if_pos hlt, if_pos c, if_pos c2.1, wrap_id (x := i - 1) (by omega) (by omega), if_pos (by omega), if_pos (by omega), if_pos (show (rd_T61 l (i - 1)).f0 ≥ (rd_T61 l i).f0 from c2.2)]
        · simp only [Bool.false_eq_true, false_iff]
          intro H
          have := (H.1 i (by omega) hlt).2.1.2 c2.1
          omega
      · refine ⟨b, Ev.step (fun k => ?_) hb, ?_⟩
        · simp only [impl_ArePoles.l0, both_impl, Option.bind_some, decide_eq_true_eq]
          rw [if_pos hlt, if_pos h0, if_pos hlt, if_pos c, wrap_id (x := i + 1) (by omega) (by omega)]
          by_cases c3 : i > 0
          · rw [if_pos c3, wrap_id (x := i - 1) (by omega) (by omega), if_pos (by omega), if_pos (by omega), if_neg (fun h => c2 ⟨c3, h⟩)]
          · rw [if_neg c3]
        · rw [hi]
          constructor
          · intro H
            refine ⟨fun j h3 h4 => ?_, H.2⟩
            by_cases e : j = i
            · subst e
              exact ⟨c.1, ⟨c.2.1, fun hp => by omega⟩, c.2.2⟩
            · exact H.1 j (by omega) h4
          · intro H
            exact ⟨fun j h3 h4 => H.1 j (by omega) h4, H.2⟩
    · refine ⟨false, Ev.step (f := fun _ => some false) (fun k => ?_) (Ev.now _), ?_⟩
      · simp only [impl_ArePoles.l0, both_impl, Option.bind_some, decide_eq_true_eq]
        rw [if_pos hlt, if_pos h0, if_pos hlt, if_neg c]
      · simp only [Bool.false_eq_true, false_iff]
        intro H
        have := H.1 i (by omega) hlt
        exact c ⟨this.1, this.2.1.1, this.2.2⟩

/-- Both sides tell alike whether there are poles of a lamp. -/
theorem good_ev (m : Int) (l : List S61) (h : l.length ≤ 1000000000) : ∃ b : Bool, Ev (fun k => spec_swGood.f k m l) b ∧ Ev (fun k => impl_ArePoles.f k m l) b ∧ (b = true ↔ Good m l) := by
  obtain ⟨b1, e1, i1⟩ := are_l m l.length l 0 (by omega) (by omega) h
  obtain ⟨b2, e2, i2⟩ := row_l l.length l 0 (by omega) (by omega) h
  obtain ⟨b3, e3, i3⟩ := low_l m l.length l 0 (by omega) (by omega) h
  have i1' : b1 = true ↔ Good m l := by
    rw [i1]
    constructor
    · intro H
      have h0 := H.1 0 (by omega) (by omega)
      exact ⟨h0.1, H.2, fun j hj hj2 => (H.1 j hj hj2).2⟩
    · intro H
      exact ⟨fun j hj hj2 => ⟨H.1, H.2.2 j hj hj2⟩, H.2.1⟩
  refine ⟨b1, ?_, e1, i1'⟩
  obtain ⟨K2, k2⟩ := e2
  obtain ⟨K3, k3⟩ := e3
  replace k2 : ∀ k, K2 ≤ k → spec_swRow.l0 k l l (l.length : Int) 0 = some b2 := k2
  replace k3 : ∀ k, K3 ≤ k → spec_swGood.l0 k m l (l.length : Int) 0 = some b3 := k3
  refine ⟨K2 + K3 + 5, fun k hk => ?_⟩
  obtain ⟨k, rfl⟩ : ∃ m, k = m + 1 := ⟨k - 1, by omega⟩
  simp only [spec_swGood.f, spec_swLamp.f, spec_swRow.f, in_eq, Option.bind_some, decide_eq_true_eq]
  by_cases c1 : 2 ≤ m ∧ m ≤ 200
  · rw [if_pos c1]
    by_cases c2 : 1 ≤ (l.length : Int) ∧ (l.length : Int) ≤ 6
    · rw [if_pos c2, k2 (k + 1) (by omega)]
      simp only [Option.bind_some, spec_swGood.j0]
      cases b2
      · rw [if_pos (show (!false) = true from rfl)]
        have : b1 = false := by
          rw [← Bool.not_eq_true, i1']
          intro H
          exact absurd (i2.2 (fun j hj hj2 => (H.2.2 j hj hj2).1)) (by simp)
        rw [this]
      · rw [if_neg (show ¬ (!true) = true by simp), k3 k (by omega)]
        congr 1
        rw [Bool.eq_iff_iff, i3, i1']
        constructor
        · intro H
          exact ⟨c1, c2, fun j hj hj2 => ⟨i2.1 rfl j hj hj2, H j hj hj2⟩⟩
        · intro H j hj hj2
          exact (H.2.2 j hj hj2).2
    · rw [if_neg c2]
      simp only [Option.bind_some, spec_swGood.j0]
      rw [if_pos (show (!false) = true from rfl)]
      have : b1 = false := by
        rw [← Bool.not_eq_true, i1']
        intro H
        exact c2 H.2.1
      rw [this]
  · rw [if_neg c1]
    simp only [spec_swGood.j0]
    rw [if_pos trivial]
    have : b1 = false := by
      rw [← Bool.not_eq_true, i1']
      intro H
      exact c1 H.1
    rw [this]

theorem rd_take (l : List S61) (i j : Int) (h0 : 0 ≤ j) (h1 : j < i) : rd_T61 (l.take i.toNat) j = rd_T61 l j := by
  unfold rd_T61
  rw [List.getD_eq_getElem?_getD, List.getD_eq_getElem?_getD, List.getElem?_take, if_pos (by omega)]

theorem hid_on (m : Int) (l : List S61) (hl : l.length ≤ 1000000000) (D : List Int) (hD : D.length ≤ 1000000) (i : Int) (hi : 0 ≤ i ∧ i < l.length) (a b : Int) (n : Nat) : ∀ (j : Int), 0 ≤ j → i - j = n →
    ∀ R, Ev (fun k => spec_HiddenPoles.l0 k m l (D ++ [i]) l (l.length : Int) (i + 1)) R → Ev (fun k => spec_HiddenPoles.l1 k m l D i true l (l.length : Int) i (l.take i.toNat) ((l.take i.toNat).length : Int) j a b) R := by
  have hlen : ((l.take i.toNat).length : Int) = i := by rw [List.length_take]; omega
  induction n with
  | zero =>
    intro j h0 h1 R hR
    refine Ev.step (fun k => ?_) hR
    simp only [spec_HiddenPoles.l1]
    rw [if_neg (by omega), if_pos trivial, if_pos (by omega), wrap_id (x := i + 1) (by omega) (by omega)]
  | succ n ih =>
    intro j h0 h1 R hR
    refine Ev.step (fun k => ?_) (ih (j + 1) (by omega) (by omega) R hR)
    simp only [spec_HiddenPoles.l1]
    rw [if_pos (by omega), if_pos h0, if_pos (by omega), if_pos trivial, wrap_id (x := j + 1) (by omega) (by omega)]

theorem hid_off (m : Int) (l : List S61) (hl : l.length ≤ 1000000000) (hg : Good m l) (D : List Int) (hD : D.length ≤ 1000000) (i : Int) (hi : 0 ≤ i ∧ i < l.length) (n : Nat) : ∀ (j : Int), 0 ≤ j → i - j = n →
    ∃ D' : List Int, D'.length ≤ D.length + 1 ∧ (∀ R, Ev (fun k => spec_HiddenPoles.l0 k m l D' l (l.length : Int) (i + 1)) R → Ev (fun k => spec_HiddenPoles.l1 k m l D i false l (l.length : Int) i (l.take i.toNat) ((l.take i.toNat).length : Int) j (rd_T61 l i).f0 (rd_T61 l i).f1) R) ∧
      (∀ R, Ev (fun k => impl_HiddenPoles.l0 k m l D' l (l.length : Int) (i + 1)) R → Ev (fun k => impl_HiddenPoles.l1 k m l D i l (l.length : Int) i (l.take i.toNat) ((l.take i.toNat).length : Int) j (rd_T61 l i).f0 (rd_T61 l i).f1) R) := by
  have hlen : ((l.take i.toNat).length : Int) = i := by rw [List.length_take]; omega
  induction n with
  | zero =>
    intro j h0 h1
    refine ⟨D, by omega, fun R hR => Ev.step (fun k => ?_) hR, fun R hR => Ev.step (fun k => ?_) hR⟩
    · simp only [spec_HiddenPoles.l1]
      rw [if_neg (by omega), if_neg (by simp), wrap_id (x := i + 1) (by omega) (by omega)]
    · simp only [impl_HiddenPoles.l1]
      rw [if_neg (by omega), wrap_id (x := i + 1) (by omega) (by omega)]
  | succ n ih =>
    intro j h0 h1
    have hji : j < i := by omega
    have ga := hg.2.2 i hi.1 hi.2
    have gb := hg.2.2 j h0 (by omega)
    obtain ⟨o, e1, e2, _⟩ := hides_ev m (rd_T61 l j).f0 (rd_T61 l j).f1 (rd_T61 l i).f0 (rd_T61 l i).f1 hg.1 gb.1.1.1 ⟨gb.1.1.2.1, gb.2⟩ ga.1.1.1 ⟨ga.1.1.2.1, ga.2⟩
    cases o
    · obtain ⟨D', hD', s1, s2⟩ := ih (j + 1) (by omega) (by omega)
      refine ⟨D', hD', fun R hR => stepK 1000 (fun k hk => ?_) (s1 R hR), fun R hR => Ev.step (fun k => ?_) (s2 R hR)⟩
      · simp only [spec_HiddenPoles.l1]
        rw [if_pos (by omega), if_pos h0, if_pos (by omega), if_neg (by simp), rd_take l i j h0 hji, e1 k hk, wrap_id (x := j + 1) (by omega) (by omega)]
        rfl
      · simp only [impl_HiddenPoles.l1]
        rw [if_pos (by omega), if_pos h0, if_pos (by omega), rd_take l i j h0 hji, e2, wrap_id (x := j + 1) (by omega) (by omega)]
        simp
    · refine ⟨D ++ [i], by simp, fun R hR => stepK 1000 (fun k hk => ?_) (hid_on m l hl D hD i hi (rd_T61 l i).f0 (rd_T61 l i).f1 n (j + 1) (by omega) (by omega) R hR), fun R hR => Ev.step (fun k => ?_) hR⟩
      · simp only [spec_HiddenPoles.l1]
        rw [if_pos (by omega), if_pos h0, if_pos (by omega), if_neg (by simp), rd_take l i j h0 hji, e1 k hk, wrap_id (x := j + 1) (by omega) (by omega)]
        rfl
      · simp only [impl_HiddenPoles.l1]
        rw [if_pos (by omega), if_pos h0, if_pos (by omega), rd_take l i j h0 hji, e2]
        simp only [Option.bind_some, if_true]
        rw [if_pos (by omega), wrap_id (x := i + 1) (by omega) (by omega)]

theorem hid_l0 (m : Int) (l : List S61) (hl : l.length ≤ 1000000000) (hg : Good m l) (n : Nat) : ∀ (D : List Int) (i : Int), 0 ≤ i → (l.length : Int) - i = n → D.length + n ≤ 1000 →
    ∃ R : List Int, Ev (fun k => spec_HiddenPoles.l0 k m l D l (l.length : Int) i) (R, true) ∧ Ev (fun k => impl_HiddenPoles.l0 k m l D l (l.length : Int) i) (R, true) ∧ R.length ≤ 1000 := by
  induction n with
  | zero =>
    intro D i h0 h1 h2
    refine ⟨D, Ev.step (f := fun _ => some (D, true)) (fun k => ?_) (Ev.now _), Ev.step (f := fun _ => some (D, true)) (fun k => ?_) (Ev.now _), by omega⟩
    · simp only [spec_HiddenPoles.l0]
      rw [if_neg (by omega)]
    · simp only [impl_HiddenPoles.l0]
      rw [if_neg (by omega)]
  | succ n ih =>
    intro D i h0 h1 h2
    have hlt : i < (l.length : Int) := by omega
    obtain ⟨D', hD', s1, s2⟩ := hid_off m l hl hg D (by omega) i ⟨h0, hlt⟩ i.toNat 0 (by omega) (by omega)
    obtain ⟨R, r1, r2, r3⟩ := ih D' (i + 1) (by omega) (by omega) (by omega)
    refine ⟨R, Ev.step (fun k => ?_) (s1 _ r1), Ev.step (fun k => ?_) (s2 _ r2), r3⟩
    · simp only [spec_HiddenPoles.l0, Option.bind_some]
      rw [if_pos hlt, if_pos h0, if_pos hlt, if_pos (by omega)]
    · simp only [impl_HiddenPoles.l0, Option.bind_some]
      rw [if_pos hlt, if_pos h0, if_pos hlt, if_pos (by omega)]

theorem hid_ev (m : Int) (l : List S61) (hl : l.length ≤ 1000000000) : ∃ (R : List Int) (o : Bool), Ev (fun k => spec_HiddenPoles.f k m l) (R, o) ∧ Ev (fun k => impl_HiddenPoles.f k m l) (R, o) ∧ R.length ≤ 1000 := by
  obtain ⟨b, ⟨K1, h1⟩, ⟨K2, h2⟩, hb⟩ := good_ev m l hl
  cases b
  · refine ⟨[], false, ⟨K1, fun k hk => ?_⟩, ⟨K2, fun k hk => ?_⟩, by simp⟩
    · simp [spec_HiddenPoles.f, h1 k hk]
    · simp [impl_HiddenPoles.f, h2 k hk]
  · have hg := hb.1 rfl
    obtain ⟨R, e1, e2, e3⟩ := hid_l0 m l hl hg l.length [] 0 (by omega) (by omega) (by have := hg.2.1; simp; omega)
    refine ⟨R, true, congrK K1 (fun k hk => ?_) e1, congrK K2 (fun k hk => ?_) e2, e3⟩
    · simp [spec_HiddenPoles.f, h1 k hk]
    · simp [impl_HiddenPoles.f, h2 k hk]
end FnExactHiddenPolesL
open FnExactHiddenPolesL

theorem FnExactHiddenPoles (m : Int) (l : List S63) (_ : (Lit.int .i64 m).wf = true) (h : l.length * 16 ≤ 140737488351232) : ∃ k, laws_FnExactHiddenPoles.f k m l = some true := by
  have hz := szPoleS_ev l h
  by_cases c : 1048576 - (l.length : Int) < 0
  · refine ⟨1, ?_⟩
    unfold laws_FnExactHiddenPoles.f
    rw [hz, if_pos c]
    simp
  · obtain ⟨K1, h1⟩ := toPoleS_ev l (by omega)
    obtain ⟨R, o, ⟨K2, h2⟩, ⟨K3, h3⟩, hR⟩ := hid_ev m (l.map conv) (by simp; omega)
    obtain ⟨K4, h4⟩ := eqPoleS_ev (l.map conv) (by simp; omega)
    obtain ⟨K5, h5⟩ := eqIntS_ev R (by omega)
    obtain ⟨q, Q, hq, ⟨K6, h6⟩⟩ := markPoleS_ev (l.map conv) (by simp; omega)
    obtain ⟨p, P, hp, ⟨K7, h7⟩, ⟨K8, h8⟩⟩ := markIntS_ev R (by omega)
    obtain ⟨K, g1, g2, g3, g4, g5, g6, g7, g8⟩ : ∃ K, K1 ≤ K ∧ K2 ≤ K ∧ K3 ≤ K ∧ K4 ≤ K ∧ K5 ≤ K ∧ K6 ≤ K ∧ K7 ≤ K ∧ K8 ≤ K := ⟨K1 + K2 + K3 + K4 + K5 + K6 + K7 + K8, by omega, by omega, by omega, by omega, by omega, by omega, by omega, by omega⟩
    rw [if_neg c] at hz
    have hn : ¬ q < 0 := by omega
    have hn2 : ¬ p < 0 := by omega
    have no : ¬ (o != o) = true := by simp
    refine ⟨K + 3, ?_⟩
    rw [laws_FnExactHiddenPoles.f, bind_eq hz, if_neg c, bind_eq (h1 (K + 3) (by omega)), bind_eq (h2 (K + 3) (by omega)), bind_eq (h1 (K + 3) (by omega)), bind_eq (h3 (K + 3) (by omega)), bind_eq (h5 (K + 3) (by omega)), if_pos rfl,
      laws_FnExactHiddenPoles.j0, if_neg no, bind_eq (h1 (K + 2) (by omega)), bind_eq (h4 (K + 2) (by omega)), if_pos rfl, bind_eq (h6 (K + 2) (by omega)), if_neg hn, bind_eq (h5 (K + 2) (by omega)), if_pos rfl,
      laws_FnExactHiddenPoles.j1, if_neg no, bind_eq (h7 (K + 1) (by omega)), bind_eq (h8 (K + 1) (by omega)), if_neg hn2, if_pos rfl, bind_eq (h1 (K + 1) (by omega)), bind_eq (h3 (K + 1) (by omega)), bind_eq (h5 (K + 1) (by omega)), if_pos rfl,
      laws_FnExactHiddenPoles.j2, if_neg no, bind_eq (h8 K g8), if_neg hn2, if_pos rfl]

end Go.Proofs.Ytmggonkdlhghjaa.Pure
