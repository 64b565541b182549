/- The plain law of FnExactTablesFor: for every argument the printed law function answers true. No condition beyond the statement's own. -/
import Derived.Test.YtheeghlfckhdeaaPFnExactTablesForx3
set_option linter.unusedVariables false
set_option linter.unusedSimpArgs false
namespace Go.Proofs.Ytheeghlfckhdeaa.Pure
open Go.RowKit Go.Proofs.Ytheeghlfckhdeaa.PFnExactTablesFor Go.Proofs.YtheeghlfckhdeaaW.PrintWords Go.Proofs.YtheeghlfckhdeaaW.PrintLast Go.Proofs.YtheeghlfckhdeaaW.PrintMore
namespace FnExactTablesForL
theorem wrap_id {x : Int} (h0 : -9223372036854775808 ≤ x) (h1 : x ≤ 9223372036854775807) : wrap64 x = x := by unfold wrap64; omega

theorem in_eq (a b c : Int) : spec_l1In.f a b c = some (decide (b ≤ a ∧ a ≤ c)) := by
  unfold spec_l1In.f
  by_cases h : a ≥ b
  · rw [if_pos h]; simp [h]
  · rw [if_neg h]; simp; omega

theorem within_eq (a b c : Int) : impl_within.f a b c = some (decide (b ≤ a ∧ a ≤ c)) := by
  unfold impl_within.f
  by_cases h : a ≥ b
  · rw [if_pos h]; simp [h]
  · rw [if_neg h]; simp; omega

theorem mulb {a b A B : Int} (ha : 0 ≤ a) (ha2 : a ≤ A) (hb : 0 ≤ b) (hb2 : b ≤ B) : 0 ≤ a * b ∧ a * b ≤ A * B :=
  ⟨Int.mul_nonneg ha hb, Int.mul_le_mul ha2 hb2 hb (by omega)⟩


theorem stepK {α : Type} {g f : Nat → Option α} {r : α} (K0 : Nat) (h : ∀ k, K0 ≤ k → g (k + 1) = f k) (hf : Ev f r) : Ev g r := by
  obtain ⟨K, hK⟩ := hf
  refine ⟨K + K0 + 1, fun k hk => ?_⟩
  obtain ⟨k, rfl⟩ : ∃ m, k = m + 1 := ⟨k - 1, by omega⟩
  rw [h k (by omega), hK k (by omega)]
theorem congrK {α : Type} {g f : Nat → Option α} {r : α} (K0 : Nat) (h : ∀ k, K0 ≤ k → g k = f k) (hf : Ev f r) : Ev g r := by
  obtain ⟨K, hK⟩ := hf
  exact ⟨K + K0, fun k hk => by rw [h k (by omega), hK k (by omega)]⟩


theorem gcd_step {x y : Int} (hx : 0 ≤ x) (hy : 0 < y) : Int.gcd y (Int.tmod x y) = Int.gcd x y := by
  rw [Int.tmod_eq_emod_of_nonneg hx]
  obtain ⟨a, rfl⟩ := Int.eq_ofNat_of_zero_le hx
  obtain ⟨b, rfl⟩ := Int.eq_ofNat_of_zero_le (Int.le_of_lt hy)
  rw [← Int.natCast_emod, Int.gcd_natCast_natCast, Int.gcd_natCast_natCast, Nat.gcd_comm a b, Nat.gcd_rec b a, Nat.gcd_comm]

theorem tmod_bd {x y : Int} (hx : 0 ≤ x) (hy : 0 < y) : 0 ≤ Int.tmod x y ∧ Int.tmod x y < y := by
  rw [Int.tmod_eq_emod_of_nonneg hx]
  exact ⟨Int.emod_nonneg _ (by omega), Int.emod_lt_of_pos _ hy⟩


theorem gcd_ev (n : Nat) : ∀ (k : Nat) (x y : Int), 0 ≤ x → x ≤ 1000000000000000 → 0 ≤ y → y ≤ 1000000000000000 → y ≤ n → n < k → impl_gcd.l0 k x y = some (Int.gcd x y : Int) := by
  induction n with
  | zero =>
    intro k x y hx hx2 hy hy2 hn hk
    obtain ⟨k, rfl⟩ : ∃ m, k = m + 1 := ⟨k - 1, by omega⟩
    obtain rfl : y = 0 := by omega
    simp only [impl_gcd.l0]
    rw [if_pos trivial, wrap_id (by omega) (by omega)]
    congr 1
    unfold mx
    rw [if_neg (by omega), Int.gcd_zero_right]
    omega
  | succ n ih =>
    intro k x y hx hx2 hy hy2 hn hk
    obtain ⟨k, rfl⟩ : ∃ m, k = m + 1 := ⟨k - 1, by omega⟩
    simp only [impl_gcd.l0]
    by_cases h : y = 0
    · subst h
      rw [if_pos rfl, wrap_id (by omega) (by omega)]
      congr 1
      unfold mx
      rw [if_neg (by omega), Int.gcd_zero_right]
      omega
    · have hp : 0 < y := by omega
      have hb := tmod_bd hx hp
      rw [if_neg h, ih k y (Int.tmod x y) hy hy2 hb.1 (by omega) (by omega) (by omega), gcd_step hx hp]


theorem low_ev (n : Nat) : ∀ (k : Nat) (p q x y : Int), 0 ≤ x → 0 ≤ y → y ≤ n → n < k → 0 < x + y →
    spec_clLow.l0 k p q x y = some (wrap64 (Int.tdiv p (Int.gcd x y : Int)), wrap64 (Int.tdiv q (Int.gcd x y : Int))) := by
  induction n with
  | zero =>
    intro k p q x y hx hy hn hk hs
    obtain ⟨k, rfl⟩ : ∃ m, k = m + 1 := ⟨k - 1, by omega⟩
    obtain rfl : y = 0 := by omega
    simp only [spec_clLow.l0]
    rw [if_neg (by omega), if_neg (by omega), Int.gcd_zero_right]
    have e : (x.natAbs : Int) = x := by omega
    rw [e]
  | succ n ih =>
    intro k p q x y hx hy hn hk hs
    obtain ⟨k, rfl⟩ : ∃ m, k = m + 1 := ⟨k - 1, by omega⟩
    simp only [spec_clLow.l0]
    by_cases h : y = 0
    · subst h
      rw [if_neg (by omega), if_neg (by omega), Int.gcd_zero_right]
      have e : (x.natAbs : Int) = x := by omega
      rw [e]
    · have hp : 0 < y := by omega
      have hb := tmod_bd hx hp
      rw [if_pos hp, if_neg h, ih k p q y (Int.tmod x y) hy hb.1 (by omega) (by omega) (by omega), gcd_step hx hp]


/-- What lowest terms are: both numbers by one common measure. -/
theorem cofactors {g x y : Int} (hg : g = (Int.gcd x y : Int)) (hx : 0 ≤ x) (hy : 0 < y) :
    ∃ p q : Int, 0 < g ∧ x = g * p ∧ y = g * q ∧ 0 ≤ p ∧ 1 ≤ q ∧ p ≤ x ∧ q ≤ y ∧ Int.tdiv x g = p ∧ Int.tdiv y g = q := by
  have hg0 : Int.gcd x y ≠ 0 := by
    intro h
    rw [Int.gcd_eq_zero_iff] at h
    omega
  have hgp : 0 < g := by omega
  obtain ⟨p, hp⟩ : g ∣ x := hg ▸ Int.gcd_dvd_left ..
  obtain ⟨q, hq⟩ : g ∣ y := hg ▸ Int.gcd_dvd_right ..
  have hp0 : 0 ≤ p := by
    by_cases h : 0 ≤ p
    · exact h
    · have := Int.mul_lt_mul_of_pos_left (show p < 0 by omega) hgp
      rw [Int.mul_zero] at this
      omega
  have hq1 : 1 ≤ q := by
    by_cases h : 0 < q
    · omega
    · have := Int.mul_nonneg (Int.le_of_lt hgp) (show 0 ≤ -q by omega)
      rw [Int.mul_neg] at this
      omega
  have hpx : p ≤ x := by
    have := Int.mul_le_mul_of_nonneg_right (show 1 ≤ g by omega) hp0
    rw [Int.one_mul] at this
    omega
  have hqy : q ≤ y := by
    have := Int.mul_le_mul_of_nonneg_right (show 1 ≤ g by omega) (show 0 ≤ q by omega)
    rw [Int.one_mul] at this
    omega
  exact ⟨p, q, hgp, hp, hq, hp0, hq1, hpx, hqy, Int.tdiv_eq_of_eq_mul_right (by omega) hp, Int.tdiv_eq_of_eq_mul_right (by omega) hq⟩

theorem low_sem (k : Nat) (x y : Int) (hx : 0 ≤ x) (hx2 : x ≤ 1000000000000000) (hy : 0 < y) (hy2 : y ≤ 1000000000000000) (hk : y < k) :
    ∃ g p q : Int, 0 < g ∧ x = g * p ∧ y = g * q ∧ 0 ≤ p ∧ 1 ≤ q ∧ p ≤ x ∧ q ≤ y ∧ g = (Int.gcd x y : Int) ∧ spec_clLow.f k x y = some (p, q) := by
  obtain ⟨p, q, h1, h2, h3, h4, h5, h6, h7, h8, h9⟩ := cofactors rfl hx hy
  refine ⟨_, p, q, h1, h2, h3, h4, h5, h6, h7, rfl, ?_⟩
  unfold spec_clLow.f
  rw [low_ev y.toNat k x y x y hx (by omega) (by omega) (by omega) (by omega), h8, h9, wrap_id (by omega) (by omega), wrap_id (by omega) (by omega)]



theorem eqTableS_l (n : Nat) : ∀ (l : List S36) (i : Int), 0 ≤ i → (l.length : Int) - i = n → l.length ≤ 1000000000000 → Ev (fun k => laws_eqTableS.l0 k l l i) true := by
  induction n with
  | zero =>
    intro l i h0 h1 h2
    refine Ev.step (f := fun _ => some true) (fun k => ?_) (Ev.now true)
    simp only [laws_eqTableS.l0]
    rw [if_neg (by omega)]
  | succ n ih =>
    intro l i h0 h1 h2
    refine Ev.step (f := fun k => laws_eqTableS.l0 k l l (i + 1)) (fun k => ?_) (ih l (i + 1) (by omega) (by omega) h2)
    simp only [laws_eqTableS.l0, laws_eqTable.f]
    rw [if_pos (show i < (l.length : Int) by omega), if_pos h0, wrap_id (x := i + 1) (by omega) (by omega)]
    simp
    try omega

theorem eqTableS_ev (l : List S36) (h : l.length ≤ 1000000000000) : Ev (fun k => laws_eqTableS.f k l l) true := by
  refine Ev.congr (f := fun k => laws_eqTableS.l0 k l l 0) (fun k => ?_) (eqTableS_l l.length l 0 (by omega) (by omega) h)
  unfold laws_eqTableS.f
  rw [if_pos rfl]

theorem rd_T36_set (l : List S36) (i j : Int) (v : S36) (h0 : 0 ≤ i) (h1 : i < l.length) (hj : 0 ≤ j) : rd_T36 (l.set i.toNat v) j = if j = i then v else rd_T36 l j := by
  unfold rd_T36
  rw [List.getD_eq_getElem?_getD, List.getD_eq_getElem?_getD, List.getElem?_set]
  by_cases h : j = i
  · subst h
    rw [if_pos rfl, if_pos rfl, if_pos (by omega)]
    rfl
  · rw [if_neg (by omega), if_neg h]

theorem markTableS_l (n : Nat) : ∀ (l : List S36) (m i : Int), 0 ≤ i → (l.length : Int) - i = n → l.length ≤ 1000000000000 → 0 ≤ m → m ≤ 1000000000000000 - 2 * n →
    ∃ L : List S36, Ev (fun k => laws_markTableS.l0 k l m i) (m + 2 * n, L) ∧ L.length = l.length ∧ (∀ j, 0 ≤ j → j < i → rd_T36 L j = rd_T36 l j) ∧ ∀ j, i ≤ j → j < l.length → (rd_T36 L j).f0 = m + 2 * (j - i) + 0 ∧ (rd_T36 L j).f1 = m + 2 * (j - i) + 1 := by
  induction n with
  | zero =>
    intro l m i h0 h1 h2 h3 h4
    refine ⟨l, Ev.step (f := fun _ => some (m, l)) (fun k => ?_) ?_, rfl, fun _ _ _ => rfl, fun j ha hb => by omega⟩
    · simp only [laws_markTableS.l0]
      rw [if_neg (by omega)]
    · have e : m + 2 * ((0 : Nat) : Int) = m := by omega
      rw [e]; exact Ev.now _
  | succ n ih =>
    intro l m i h0 h1 h2 h3 h4
    have hlt : i < (l.length : Int) := by omega
    obtain ⟨L, he, hl, ha, hb⟩ := ih (l.set i.toNat (⟨m, m + 1⟩ : S36)) (m + 2) (i + 1) (by omega) (by rw [List.length_set]; omega) (by rw [List.length_set]; exact h2) (by omega) (by omega)
    rw [List.length_set] at hl hb
    refine ⟨L, ?_, hl, fun j hj1 hj2 => ?_, fun j hj1 hj2 => ?_⟩
    · rw [show m + 2 * ((n + 1 : Nat) : Int) = m + 2 + 2 * (n : Int) by omega]
      refine Ev.step (f := fun k => laws_markTableS.l0 k (l.set i.toNat (⟨m, m + 1⟩ : S36)) (m + 2) (i + 1)) (fun k => ?_) he
      simp only [laws_markTableS.l0, Option.bind_some]
      rw [if_pos hlt, if_pos h0]
      rw [wrap_id (x := m + 1) (by omega) (by omega), wrap_id (x := m + 1 + 1) (by omega) (by omega), wrap_id (x := i + 1) (by omega) (by omega)]
      have e1 := rd_T36_set l i i (⟨m, (rd_T36 l i).f1⟩ : S36) h0 hlt h0
      rw [if_pos rfl] at e1
      rw [e1, show m + 1 + 1 = m + 2 by omega]
      simp only [List.set_set]
    · rw [ha j hj1 (by omega), rd_T36_set l i j _ h0 hlt hj1, if_neg (by omega)]
    · by_cases e : j = i
      · subst e
        rw [ha j h0 (by omega), rd_T36_set l j j _ h0 hlt h0, if_pos rfl]
        simp
        try omega
      · have := hb j (by omega) hj2
        omega

theorem heldTableS_l (n : Nat) : ∀ (l : List S36) (m i : Int), 0 ≤ i → (l.length : Int) - i = n → l.length ≤ 1000000000000 → 0 ≤ m → m ≤ 1000000000000000 - 2 * n →
    (∀ j, i ≤ j → j < l.length → (rd_T36 l j).f0 = m + 2 * (j - i) + 0 ∧ (rd_T36 l j).f1 = m + 2 * (j - i) + 1) → Ev (fun k => laws_heldTableS.l0 k l m i) (m + 2 * n) := by
  induction n with
  | zero =>
    intro l m i h0 h1 h2 h3 h4 h5
    refine Ev.step (f := fun _ => some m) (fun k => ?_) ?_
    · simp only [laws_heldTableS.l0]
      rw [if_neg (by omega)]
    · have e : m + 2 * ((0 : Nat) : Int) = m := by omega
      rw [e]; exact Ev.now _
  | succ n ih =>
    intro l m i h0 h1 h2 h3 h4 h5
    have hlt : i < (l.length : Int) := by omega
    have hi := h5 i (by omega) hlt
    rw [show m + 2 * ((n + 1 : Nat) : Int) = m + 2 + 2 * (n : Int) by omega]
    refine Ev.step (f := fun k => laws_heldTableS.l0 k l (m + 2) (i + 1)) (fun k => ?_) (ih l (m + 2) (i + 1) (by omega) (by omega) h2 (by omega) (by omega) (fun j hj1 hj2 => by have := h5 j (by omega) hj2; omega))
    simp only [laws_heldTableS.l0]
    rw [if_pos hlt, if_pos h0]
    rw [if_pos (by omega), wrap_id (x := m + 1) (by omega) (by omega), if_pos (by omega), wrap_id (x := m + 1 + 1) (by omega) (by omega), wrap_id (x := i + 1) (by omega) (by omega), show m + 1 + 1 = m + 2 by omega]

/-- What is marked is held, as often as it is asked. -/
theorem markTableS_ev (l : List S36) (h : l.length ≤ 1000000000) :
    ∃ (m : Int) (L : List S36), 0 ≤ m ∧ Ev (fun k => laws_markTableS.f k l 1) (m, L) ∧ Ev (fun k => laws_heldTableS.f k L 1) m := by
  obtain ⟨L, he, hl, _, hb⟩ := markTableS_l l.length l 1 0 (by omega) (by omega) (by omega) (by omega) (by omega)
  have hh := heldTableS_l l.length L 1 0 (by omega) (by omega) (by omega) (by omega) (by omega) (fun j hj1 hj2 => hb j hj1 (by omega))
  exact ⟨_, L, by omega, he, hh⟩
theorem tab_impl (a b : Int) : impl_IsTable.f a b = some (decide ((1 ≤ a ∧ a ≤ 60) ∧ (1 ≤ b ∧ b ≤ 60))) := by
  simp only [impl_IsTable.f, within_eq, Option.bind_some, decide_eq_true_eq]
  by_cases h : 1 ≤ a ∧ a ≤ 60 <;> simp [h]

theorem tables_l (b : Int) (hb : 0 ≤ b ∧ b ≤ 100) (n : Nat) : ∀ (L : List S36) (w : Int), 1 ≤ w → 2 * w ≤ b + 4 → b + 2 < 2 * w + 2 * n → L.length + n ≤ 1000 →
    ∃ R : List S36, Ev (fun k => spec_TablesFor.l0 k b L w) (R, true) ∧ Ev (fun k => impl_TablesFor.l0 k b L w) (R, true) ∧ R.length ≤ 1000 := by
  induction n with
  | zero =>
    intro L w h0 h1 h2 h3
    refine ⟨L, Ev.step (f := fun _ => some (L, true)) (fun k => ?_) (Ev.now _), Ev.step (f := fun _ => some (L, true)) (fun k => ?_) (Ev.now _), by omega⟩
    · simp only [spec_TablesFor.l0]
      rw [wrap_id (x := 2 * w) (by omega) (by omega), wrap_id (x := b + 2) (by omega) (by omega), if_neg (by omega)]
    · simp only [impl_TablesFor.l0]
      rw [wrap_id (x := 2 * w) (by omega) (by omega), wrap_id (x := b + 2) (by omega) (by omega), if_neg (by omega)]
  | succ n ih =>
    intro L w h0 h1 h2 h3
    by_cases c : 2 * w ≤ b + 2
    · obtain ⟨g, hg⟩ : ∃ g : Int, g = (Int.gcd w (b + 2 - w) : Int) := ⟨_, rfl⟩
      obtain ⟨p, q, hgp, hp, hq, hp0, hq1, hpx, hqy, t1, t2⟩ := cofactors hg (by omega) (show 0 < b + 2 - w by omega)
      have hlow : ∀ k, 200 ≤ k → spec_clLow.f k w (b + 2 - w) = some (p, q) := fun k hk => by
        unfold spec_clLow.f
        rw [low_ev 150 k w (b + 2 - w) w (b + 2 - w) (by omega) (by omega) (by omega) (by omega) (by omega), ← hg, t1, t2, wrap_id (by omega) (by omega), wrap_id (by omega) (by omega)]
      have hgcd : ∀ k, 200 ≤ k → impl_gcd.f k w (b + 2 - w) = some g := fun k hk => by
        unfold impl_gcd.f
        rw [gcd_ev 150 k w (b + 2 - w) (by omega) (by omega) (by omega) (by omega) (by omega) (by omega), ← hg]
      have hpw : p = w ↔ g = 1 := by
        constructor
        · intro e
          rw [e] at hp
          have : (g - 1) * w = 0 := by rw [Int.sub_mul, ← hp]; omega
          rcases Int.mul_eq_zero.1 this with h | h <;> omega
        · intro e
          rw [e, Int.one_mul] at hp
          exact hp.symm
      by_cases c2 : p = w ∧ b + 2 - w ≤ 60
      · obtain ⟨R, e1, e2, e3⟩ := ih (L ++ [(⟨w, b + 2 - w⟩ : S36)]) (w + 1) (by omega) (by omega) (by omega) (by simp; omega)
        refine ⟨R, stepK 200 (fun k hk => ?_) e1, stepK 200 (fun k hk => ?_) e2, e3⟩
        · simp only [spec_TablesFor.l0]
          rw [wrap_id (x := 2 * w) (by omega) (by omega), wrap_id (x := b + 2) (by omega) (by omega), if_pos c, wrap_id (x := b + 2 - w) (by omega) (by omega), hlow k hk, wrap_id (x := w + 1) (by omega) (by omega)]
          simp only [Option.bind_some]
          rw [if_pos c2.1, if_pos c2.2, if_pos (by omega)]
        · simp only [impl_TablesFor.l0, tab_impl, Option.bind_some, decide_eq_true_eq]
          rw [wrap_id (x := 2 * w) (by omega) (by omega), wrap_id (x := b + 2) (by omega) (by omega), if_pos c, wrap_id (x := b + 2 - w) (by omega) (by omega), hgcd k hk, wrap_id (x := w + 1) (by omega) (by omega), if_pos (by omega)]
          simp only [Option.bind_some]
          rw [if_pos (hpw.1 c2.1), if_pos (by omega)]
      · obtain ⟨R, e1, e2, e3⟩ := ih L (w + 1) (by omega) (by omega) (by omega) (by omega)
        refine ⟨R, stepK 200 (fun k hk => ?_) e1, stepK 200 (fun k hk => ?_) e2, e3⟩
        · simp only [spec_TablesFor.l0]
          rw [wrap_id (x := 2 * w) (by omega) (by omega), wrap_id (x := b + 2) (by omega) (by omega), if_pos c, wrap_id (x := b + 2 - w) (by omega) (by omega), hlow k hk, wrap_id (x := w + 1) (by omega) (by omega)]
          simp only [Option.bind_some]
          by_cases c3 : p = w
          · rw [if_pos c3, if_neg (fun h => c2 ⟨c3, h⟩)]
          · rw [if_neg c3]
        · simp only [impl_TablesFor.l0, tab_impl, Option.bind_some, decide_eq_true_eq]
          rw [wrap_id (x := 2 * w) (by omega) (by omega), wrap_id (x := b + 2) (by omega) (by omega), if_pos c, wrap_id (x := b + 2 - w) (by omega) (by omega), hgcd k hk, wrap_id (x := w + 1) (by omega) (by omega)]
          simp only [Option.bind_some]
          by_cases c4 : (1 ≤ w ∧ w ≤ 60) ∧ (1 ≤ b + 2 - w ∧ b + 2 - w ≤ 60)
          · rw [if_pos c4, if_neg (fun h => c2 ⟨hpw.2 h, c4.2.2⟩)]
          · rw [if_neg c4]
    · refine ⟨L, Ev.step (f := fun _ => some (L, true)) (fun k => ?_) (Ev.now _), Ev.step (f := fun _ => some (L, true)) (fun k => ?_) (Ev.now _), by omega⟩
      · simp only [spec_TablesFor.l0]
        rw [wrap_id (x := 2 * w) (by omega) (by omega), wrap_id (x := b + 2) (by omega) (by omega), if_neg c]
      · simp only [impl_TablesFor.l0]
        rw [wrap_id (x := 2 * w) (by omega) (by omega), wrap_id (x := b + 2) (by omega) (by omega), if_neg c]

theorem tables_both (b : Int) : ∃ (R : List S36) (o : Bool), Ev (fun k => spec_TablesFor.f k b) (R, o) ∧ Ev (fun k => impl_TablesFor.f k b) (R, o) ∧ R.length ≤ 1000 := by
  simp only [spec_TablesFor.f, impl_TablesFor.f, in_eq, within_eq, Option.bind_some, decide_eq_true_eq]
  by_cases h : 0 ≤ b ∧ b ≤ 100
  · obtain ⟨R, e1, e2, e3⟩ := tables_l b h 60 [] 1 (by omega) (by omega) (by omega) (by simp)
    exact ⟨R, true, by simpa only [if_pos h] using e1, by simpa only [if_pos h] using e2, e3⟩
  · exact ⟨[], false, by simp only [if_neg h]; exact Ev.now _, by simp only [if_neg h]; exact Ev.now _, by simp⟩
end FnExactTablesForL
open FnExactTablesForL

theorem FnExactTablesFor : laws_FnExactTablesFor.Pure := by
  intro a _
  obtain ⟨R, o, ⟨K1, h1⟩, ⟨K2, h2⟩, hl⟩ := tables_both a
  obtain ⟨K3, h3⟩ := eqTableS_ev R (by omega)
  obtain ⟨m, M, hm, ⟨K4, h4⟩, ⟨K5, h5⟩⟩ := markTableS_ev R (by omega)
  have hn : ¬ m < 0 := by omega
  refine ⟨K1 + K2 + K3 + K4 + K5 + 10, ?_⟩
  simp (disch := omega) [laws_FnExactTablesFor.f, laws_FnExactTablesFor.j0, laws_FnExactTablesFor.j1, h1, h2, h3, h4, h5, hn]

end Go.Proofs.Ytheeghlfckhdeaa.Pure
