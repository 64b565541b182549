/- The plain law of FnExactWholeShadows: for every argument the printed law function answers true. No condition beyond the statement's own. -/
import Derived.Test.YtmggonkdlhghjaaWShadows
set_option linter.unusedVariables false
set_option linter.unusedSimpArgs false
namespace Go.Proofs.Ytmggonkdlhghjaa.Pure
open Go.RowKit Go.Proofs.Ytmggonkdlhghjaa.PFnExactWholeShadows Go.Proofs.YtmggonkdlhghjaaW.PrintWords Go.Proofs.YtmggonkdlhghjaaW.PrintLast Go.Proofs.YtmggonkdlhghjaaW.PrintMore Go.Proofs.Ytmggonkdlhghjaa.MarkSS
namespace FnExactWholeShadowsL
theorem wrap_id {x : Int} (h0 : -9223372036854775808 ≤ x) (h1 : x ≤ 9223372036854775807) : wrap64 x = x := by unfold wrap64; omega

theorem in_eq (a b c : Int) : spec_l1In.f a b c = some (decide (b ≤ a ∧ a ≤ c)) := by
  unfold spec_l1In.f
  by_cases h : a ≥ b
  · rw [if_pos h]; simp [h]
  · rw [if_neg h]; simp; omega

theorem within_eq (a b c : Int) : impl_within.f a b c = some (decide (b ≤ a ∧ a ≤ c)) := by
  unfold impl_within.f
  by_cases h : a ≥ b
  · rw [if_pos h]; simp [h]
  · rw [if_neg h]; simp; omega

theorem mulb {a b A B : Int} (ha : 0 ≤ a) (ha2 : a ≤ A) (hb : 0 ≤ b) (hb2 : b ≤ B) : 0 ≤ a * b ∧ a * b ≤ A * B :=
  ⟨Int.mul_nonneg ha hb, Int.mul_le_mul ha2 hb2 hb (by omega)⟩


theorem stepK {α : Type} {g f : Nat → Option α} {r : α} (K0 : Nat) (h : ∀ k, K0 ≤ k → g (k + 1) = f k) (hf : Ev f r) : Ev g r := by
  obtain ⟨K, hK⟩ := hf
  refine ⟨K + K0 + 1, fun k hk => ?_⟩
  obtain ⟨k, rfl⟩ : ∃ m, k = m + 1 := ⟨k - 1, by omega⟩
  rw [h k (by omega), hK k (by omega)]
theorem congrK {α : Type} {g f : Nat → Option α} {r : α} (K0 : Nat) (h : ∀ k, K0 ≤ k → g k = f k) (hf : Ev f r) : Ev g r := by
  obtain ⟨K, hK⟩ := hf
  exact ⟨K + K0, fun k hk => by rw [h k (by omega), hK k (by omega)]⟩

theorem bind_eq {α β : Type} {g : Option α} {a : α} (h : g = some a) (f : α → Option β) : g.bind f = f a := by rw [h]; rfl


theorem gcd_step {x y : Int} (hx : 0 ≤ x) (hy : 0 < y) : Int.gcd y (Int.tmod x y) = Int.gcd x y := by
  rw [Int.tmod_eq_emod_of_nonneg hx]
  obtain ⟨a, rfl⟩ := Int.eq_ofNat_of_zero_le hx
  obtain ⟨b, rfl⟩ := Int.eq_ofNat_of_zero_le (Int.le_of_lt hy)
  rw [← Int.natCast_emod, Int.gcd_natCast_natCast, Int.gcd_natCast_natCast, Nat.gcd_comm a b, Nat.gcd_rec b a, Nat.gcd_comm]

theorem tmod_bd {x y : Int} (hx : 0 ≤ x) (hy : 0 < y) : 0 ≤ Int.tmod x y ∧ Int.tmod x y < y := by
  rw [Int.tmod_eq_emod_of_nonneg hx]
  exact ⟨Int.emod_nonneg _ (by omega), Int.emod_lt_of_pos _ hy⟩


theorem low_ev (n : Nat) : ∀ (k : Nat) (p q x y : Int), 0 ≤ x → 0 ≤ y → y ≤ n → n < k → 0 < x + y →
    spec_clLow.l0 k p q x y = some (wrap64 (Int.tdiv p (Int.gcd x y : Int)), wrap64 (Int.tdiv q (Int.gcd x y : Int))) := by
  induction n with
  | zero =>
    intro k p q x y hx hy hn hk hs
    obtain ⟨k, rfl⟩ : ∃ m, k = m + 1 := ⟨k - 1, by omega⟩
    obtain rfl : y = 0 := by omega
    simp only [spec_clLow.l0]
    rw [if_neg (by omega), if_neg (by omega), Int.gcd_zero_right]
    have e : (x.natAbs : Int) = x := by omega
    rw [e]
  | succ n ih =>
    intro k p q x y hx hy hn hk hs
    obtain ⟨k, rfl⟩ : ∃ m, k = m + 1 := ⟨k - 1, by omega⟩
    simp only [spec_clLow.l0]
    by_cases h : y = 0
    · subst h
      rw [if_neg (by omega), if_neg (by omega), Int.gcd_zero_right]
      have e : (x.natAbs : Int) = x := by omega
      rw [e]
    · have hp : 0 < y := by omega
      have hb := tmod_bd hx hp
      rw [if_pos hp, if_neg h, ih k p q y (Int.tmod x y) hy hb.1 (by omega) (by omega) (by omega), gcd_step hx hp]


/-- What lowest terms are: both numbers by one common measure. -/
theorem cofactors {g x y : Int} (hg : g = (Int.gcd x y : Int)) (hx : 0 ≤ x) (hy : 0 < y) :
    ∃ p q : Int, 0 < g ∧ x = g * p ∧ y = g * q ∧ 0 ≤ p ∧ 1 ≤ q ∧ p ≤ x ∧ q ≤ y ∧ Int.tdiv x g = p ∧ Int.tdiv y g = q := by
  have hg0 : Int.gcd x y ≠ 0 := by
    intro h
    rw [Int.gcd_eq_zero_iff] at h
    omega
  have hgp : 0 < g := by omega
  obtain ⟨p, hp⟩ : g ∣ x := hg ▸ Int.gcd_dvd_left ..
  obtain ⟨q, hq⟩ : g ∣ y := hg ▸ Int.gcd_dvd_right ..
  have hp0 : 0 ≤ p := by
    by_cases h : 0 ≤ p
    · exact h
    · have := Int.mul_lt_mul_of_pos_left (show p < 0 by omega) hgp
      rw [Int.mul_zero] at this
      omega
  have hq1 : 1 ≤ q := by
    by_cases h : 0 < q
    · omega
    · have := Int.mul_nonneg (Int.le_of_lt hgp) (show 0 ≤ -q by omega)
      rw [Int.mul_neg] at this
      omega
  have hpx : p ≤ x := by
    have := Int.mul_le_mul_of_nonneg_right (show 1 ≤ g by omega) hp0
    rw [Int.one_mul] at this
    omega
  have hqy : q ≤ y := by
    have := Int.mul_le_mul_of_nonneg_right (show 1 ≤ g by omega) (show 0 ≤ q by omega)
    rw [Int.one_mul] at this
    omega
  exact ⟨p, q, hgp, hp, hq, hp0, hq1, hpx, hqy, Int.tdiv_eq_of_eq_mul_right (by omega) hp, Int.tdiv_eq_of_eq_mul_right (by omega) hq⟩

theorem low_sem (k : Nat) (x y : Int) (hx : 0 ≤ x) (hx2 : x ≤ 1000000000000000) (hy : 0 < y) (hy2 : y ≤ 1000000000000000) (hk : y < k) :
    ∃ g p q : Int, 0 < g ∧ x = g * p ∧ y = g * q ∧ 0 ≤ p ∧ 1 ≤ q ∧ p ≤ x ∧ q ≤ y ∧ g = (Int.gcd x y : Int) ∧ spec_clLow.f k x y = some (p, q) := by
  obtain ⟨p, q, h1, h2, h3, h4, h5, h6, h7, h8, h9⟩ := cofactors rfl hx hy
  refine ⟨_, p, q, h1, h2, h3, h4, h5, h6, h7, rfl, ?_⟩
  unfold spec_clLow.f
  rw [low_ev y.toNat k x y x y hx (by omega) (by omega) (by omega) (by omega), h8, h9, wrap_id (by omega) (by omega), wrap_id (by omega) (by omega)]



theorem eqIntS_l (n : Nat) : ∀ (l : List Int) (i : Int), 0 ≤ i → (l.length : Int) - i = n → l.length ≤ 1000000000000 → Ev (fun k => laws_eqIntS.l0 k l l i) true := by
  induction n with
  | zero =>
    intro l i h0 h1 h2
    refine Ev.step (f := fun _ => some true) (fun k => ?_) (Ev.now true)
    simp only [laws_eqIntS.l0]
    rw [if_neg (by omega)]
  | succ n ih =>
    intro l i h0 h1 h2
    refine Ev.step (f := fun k => laws_eqIntS.l0 k l l (i + 1)) (fun k => ?_) (ih l (i + 1) (by omega) (by omega) h2)
    simp only [laws_eqIntS.l0]
    rw [if_pos (show i < (l.length : Int) by omega), if_pos h0, wrap_id (x := i + 1) (by omega) (by omega)]
    simp
    try omega

theorem eqIntS_ev (l : List Int) (h : l.length ≤ 1000000000000) : Ev (fun k => laws_eqIntS.f k l l) true := by
  refine Ev.congr (f := fun k => laws_eqIntS.l0 k l l 0) (fun k => ?_) (eqIntS_l l.length l 0 (by omega) (by omega) h)
  unfold laws_eqIntS.f
  rw [if_pos rfl]

theorem rd_set (l : List Int) (i j : Int) (v : Int) (h0 : 0 ≤ i) (h1 : i < l.length) (hj : 0 ≤ j) : rd (l.set i.toNat v) j = if j = i then v else rd l j := by
  unfold rd
  rw [List.getD_eq_getElem?_getD, List.getD_eq_getElem?_getD, List.getElem?_set]
  by_cases h : j = i
  · subst h
    rw [if_pos rfl, if_pos rfl, if_pos (by omega)]
    rfl
  · rw [if_neg (by omega), if_neg h]

theorem markIntS_l (n : Nat) : ∀ (l : List Int) (m i : Int), 0 ≤ i → (l.length : Int) - i = n → l.length ≤ 1000000000000 → 0 ≤ m → m ≤ 1000000000000000 - 1 * n →
    ∃ L : List Int, Ev (fun k => laws_markIntS.l0 k l m i) (m + 1 * n, L) ∧ L.length = l.length ∧ (∀ j, 0 ≤ j → j < i → rd L j = rd l j) ∧ ∀ j, i ≤ j → j < l.length → rd L j = m + 1 * (j - i) + 0 := by
  induction n with
  | zero =>
    intro l m i h0 h1 h2 h3 h4
    refine ⟨l, Ev.step (f := fun _ => some (m, l)) (fun k => ?_) ?_, rfl, fun _ _ _ => rfl, fun j ha hb => by omega⟩
    · simp only [laws_markIntS.l0]
      rw [if_neg (by omega)]
    · have e : m + 1 * ((0 : Nat) : Int) = m := by omega
      rw [e]; exact Ev.now _
  | succ n ih =>
    intro l m i h0 h1 h2 h3 h4
    have hlt : i < (l.length : Int) := by omega
    obtain ⟨L, he, hl, ha, hb⟩ := ih (l.set i.toNat (m : Int)) (m + 1) (i + 1) (by omega) (by rw [List.length_set]; omega) (by rw [List.length_set]; exact h2) (by omega) (by omega)
    rw [List.length_set] at hl hb
    refine ⟨L, ?_, hl, fun j hj1 hj2 => ?_, fun j hj1 hj2 => ?_⟩
    · rw [show m + 1 * ((n + 1 : Nat) : Int) = m + 1 + 1 * (n : Int) by omega]
      refine Ev.step (f := fun k => laws_markIntS.l0 k (l.set i.toNat (m : Int)) (m + 1) (i + 1)) (fun k => ?_) he
      simp only [laws_markIntS.l0, Option.bind_some]
      rw [if_pos hlt, if_pos h0]
      rw [wrap_id (x := m + 1) (by omega) (by omega), wrap_id (x := i + 1) (by omega) (by omega)]
    · rw [ha j hj1 (by omega), rd_set l i j _ h0 hlt hj1, if_neg (by omega)]
    · by_cases e : j = i
      · subst e
        rw [ha j h0 (by omega), rd_set l j j _ h0 hlt h0, if_pos rfl]
        simp
        try omega
      · have := hb j (by omega) hj2
        omega

theorem heldIntS_l (n : Nat) : ∀ (l : List Int) (m i : Int), 0 ≤ i → (l.length : Int) - i = n → l.length ≤ 1000000000000 → 0 ≤ m → m ≤ 1000000000000000 - 1 * n →
    (∀ j, i ≤ j → j < l.length → rd l j = m + 1 * (j - i) + 0) → Ev (fun k => laws_heldIntS.l0 k l m i) (m + 1 * n) := by
  induction n with
  | zero =>
    intro l m i h0 h1 h2 h3 h4 h5
    refine Ev.step (f := fun _ => some m) (fun k => ?_) ?_
    · simp only [laws_heldIntS.l0]
      rw [if_neg (by omega)]
    · have e : m + 1 * ((0 : Nat) : Int) = m := by omega
      rw [e]; exact Ev.now _
  | succ n ih =>
    intro l m i h0 h1 h2 h3 h4 h5
    have hlt : i < (l.length : Int) := by omega
    have hi := h5 i (by omega) hlt
    rw [show m + 1 * ((n + 1 : Nat) : Int) = m + 1 + 1 * (n : Int) by omega]
    refine Ev.step (f := fun k => laws_heldIntS.l0 k l (m + 1) (i + 1)) (fun k => ?_) (ih l (m + 1) (i + 1) (by omega) (by omega) h2 (by omega) (by omega) (fun j hj1 hj2 => by have := h5 j (by omega) hj2; omega))
    simp only [laws_heldIntS.l0]
    rw [if_pos hlt, if_pos h0]
    rw [if_pos (by omega), wrap_id (x := m + 1) (by omega) (by omega), wrap_id (x := i + 1) (by omega) (by omega)]

/-- What is marked is held, as often as it is asked. -/
theorem markIntS_ev (l : List Int) (h : l.length ≤ 1000000000) :
    ∃ (m : Int) (L : List Int), 0 ≤ m ∧ Ev (fun k => laws_markIntS.f k l 1) (m, L) ∧ Ev (fun k => laws_heldIntS.f k L 1) m := by
  obtain ⟨L, he, hl, _, hb⟩ := markIntS_l l.length l 1 0 (by omega) (by omega) (by omega) (by omega) (by omega)
  have hh := heldIntS_l l.length L 1 0 (by omega) (by omega) (by omega) (by omega) (by omega) (fun j hj1 hj2 => hb j hj1 (by omega))
  exact ⟨_, L, by omega, he, hh⟩
theorem rows_set (l : List (List Int)) (i j : Int) (v : List Int) (h0 : 0 ≤ i) (h1 : i < l.length) (hj : 0 ≤ j) : rd_L1 (l.set i.toNat v) j = if j = i then v else rd_L1 l j := by
  unfold rd_L1
  rw [List.getD_eq_getElem?_getD, List.getD_eq_getElem?_getD, List.getElem?_set]
  by_cases h : j = i
  · subst h
    rw [if_pos rfl, if_pos rfl, if_pos (by omega)]
    rfl
  · rw [if_neg (by omega), if_neg h]
theorem rows_le (l : List (List Int)) (c : Nat) (h : ∀ x ∈ l, x.length ≤ c) (i : Int) : (rd_L1 l i).length ≤ c := by
  unfold rd_L1
  rw [List.getD_eq_getElem?_getD]
  by_cases e : i.toNat < l.length
  · rw [List.getElem?_eq_getElem e]; exact h _ (List.getElem_mem e)
  · rw [List.getElem?_eq_none (by omega)]; simp
theorem rows_l (c : Nat) (hc : c ≤ 1000000) (n : Nat) : ∀ (l : List (List Int)) (m i : Int), (∀ x ∈ l, x.length ≤ c) → 0 ≤ i → (l.length : Int) - i = n → l.length ≤ 1000000 → 0 ≤ m → m ≤ 100000000000000 - 1000000 * n →
    ∃ (m' : Int) (L : List (List Int)), m ≤ m' ∧ Ev (fun k => MarkSS.l0 k l m i) (m', L) ∧ L.length = l.length ∧ (∀ j, 0 ≤ j → j < i → rd_L1 L j = rd_L1 l j) ∧ Ev (fun k => laws_heldIntSS.l0 k L m i) m' := by
  induction n with
  | zero =>
    intro l m i hl h0 h1 h2 h3 h4
    refine ⟨m, l, Int.le_refl _, Ev.step (f := fun _ => some (m, l)) (fun k => ?_) (Ev.now _), rfl, fun _ _ _ => rfl, Ev.step (f := fun _ => some m) (fun k => ?_) (Ev.now _)⟩
    · simp only [MarkSS.l0]
      rw [if_neg (by omega)]
    · simp only [laws_heldIntSS.l0]
      rw [if_neg (by omega)]
  | succ n ih =>
    intro l m i hl h0 h1 h2 h3 h4
    have hlt : i < (l.length : Int) := by omega
    have hx := rows_le l c hl i
    obtain ⟨X, ⟨K1, he⟩, hXl, -, hb⟩ := markIntS_l (rd_L1 l i).length (rd_L1 l i) m 0 (by omega) (by omega) (by omega) h3 (by omega)
    obtain ⟨K2, hh⟩ := heldIntS_l X.length X m 0 (by omega) (by omega) (by omega) h3 (by omega) (fun j hj1 hj2 => hb j hj1 (by omega))
    have hset : ∀ x ∈ l.set i.toNat X, x.length ≤ c := fun x hx2 => by
      rcases List.mem_or_eq_of_mem_set hx2 with h | h
      · exact hl x h
      · rw [h, hXl]; exact hx
    obtain ⟨m', L, hm, hE, hL, hlow, hH⟩ := ih (l.set i.toNat X) (m + 1 * ((rd_L1 l i).length : Int)) (i + 1) hset (by omega) (by rw [List.length_set]; omega) (by rw [List.length_set]; exact h2) (by omega) (by omega)
    rw [List.length_set] at hL
    have hLi : rd_L1 L i = X := by rw [hlow i h0 (by omega), rows_set l i i X h0 hlt h0, if_pos rfl]
    refine ⟨m', L, by omega, stepK K1 (f := fun k => MarkSS.l0 k (l.set i.toNat X) (m + 1 * ((rd_L1 l i).length : Int)) (i + 1)) (fun k hk => ?_) hE, hL, fun j hj1 hj2 => ?_, stepK K2 (f := fun k => laws_heldIntSS.l0 k L (m + 1 * ((rd_L1 l i).length : Int)) (i + 1)) (fun k hk => ?_) hH⟩
    · simp only [MarkSS.l0]
      rw [if_pos hlt, if_pos h0]
      have e : laws_markIntS.f k (l.getD i.toNat []) m = some (m + 1 * ((rd_L1 l i).length : Int), X) := he k hk
      rw [bind_eq e, wrap_id (x := i + 1) (by omega) (by omega)]
    · rw [hlow j hj1 (by omega), rows_set l i j X h0 hlt hj1, if_neg (by omega)]
    · simp only [laws_heldIntSS.l0]
      rw [if_pos (by omega), if_pos h0, hLi]
      have e : laws_heldIntS.f k X m = some (m + 1 * (X.length : Int)) := hh k hk
      rw [bind_eq e, if_neg (by omega), wrap_id (x := i + 1) (by omega) (by omega), hXl]
theorem rows_ev (l : List (List Int)) (c : Nat) (hl : ∀ x ∈ l, x.length ≤ c) (hc : c ≤ 1000000) (h : l.length ≤ 1000000) :
    ∃ (m : Int) (L : List (List Int)), 0 ≤ m ∧ Ev (fun k => MarkSS.l0 k l 1 0) (m, L) ∧ Ev (fun k => laws_heldIntSS.f k L 1) m := by
  obtain ⟨m, L, hm, hE, _, _, hH⟩ := rows_l c hc l.length l 1 0 hl (by omega) (by omega) h (by omega) (by omega)
  exact ⟨m, L, by omega, hE, hH⟩
theorem eqrows_l (c : Nat) (hc : c ≤ 1000000) (n : Nat) : ∀ (l : List (List Int)) (i : Int), (∀ x ∈ l, x.length ≤ c) → 0 ≤ i → (l.length : Int) - i = n → l.length ≤ 1000000 → Ev (fun k => laws_eqIntSS.l0 k l l i) true := by
  induction n with
  | zero =>
    intro l i hl h0 h1 h2
    refine Ev.step (f := fun _ => some true) (fun k => ?_) (Ev.now _)
    simp only [laws_eqIntSS.l0]
    rw [if_neg (by omega)]
  | succ n ih =>
    intro l i hl h0 h1 h2
    have hx := rows_le l c hl i
    obtain ⟨K, hK⟩ := eqIntS_ev (rd_L1 l i) (by omega)
    refine stepK K (f := fun k => laws_eqIntSS.l0 k l l (i + 1)) (fun k hk => ?_) (ih l (i + 1) hl (by omega) (by omega) h2)
    simp only [laws_eqIntSS.l0]
    rw [if_pos (by omega), if_pos h0, if_pos (by omega), bind_eq (hK k hk), if_pos rfl, wrap_id (x := i + 1) (by omega) (by omega)]
theorem eqrows_ev (l : List (List Int)) (c : Nat) (hl : ∀ x ∈ l, x.length ≤ c) (hc : c ≤ 1000000) (h : l.length ≤ 1000000) : Ev (fun k => laws_eqIntSS.f k l l) true := by
  refine congrK 0 (f := fun k => laws_eqIntSS.l0 k l l 0) (fun k _ => ?_) (eqrows_l c hc l.length l 0 hl (by omega) (by omega) h)
  unfold laws_eqIntSS.f
  rw [if_pos rfl]

theorem low_div (x y : Int) (hx : 0 ≤ x) (hx2 : x ≤ 1000000) (hy : 0 < y) (hy2 : y ≤ 1000000) : ∃ p q : Int, (∀ k : Nat, y < k → spec_clLow.f k x y = some (p, q)) ∧ (q = 1 ↔ Int.tmod x y = 0) ∧ (q = 1 → p = Int.tdiv x y) := by
  obtain ⟨g, p, q, h1, h2, h3, h4, h5, h6, h7, h8, h9⟩ := low_sem (y.toNat + 1) x y hx (by omega) hy (by omega) (by omega)
  refine ⟨p, q, fun k hk => ?_, ⟨fun e => ?_, fun e => ?_⟩, fun e => ?_⟩
  · obtain ⟨g', p', q', a1, a2, a3, a4, a5, a6, a7, a8, a9⟩ := low_sem k x y hx (by omega) hy (by omega) hk
    have eg : g' = g := by rw [a8, h8]
    subst eg
    have ep : p' = p := Int.eq_of_mul_eq_mul_left (by omega) (a2.symm.trans h2)
    have eq : q' = q := Int.eq_of_mul_eq_mul_left (by omega) (a3.symm.trans h3)
    rw [a9, ep, eq]
  · subst e
    rw [Int.mul_one] at h3
    rw [h2, ← h3]
    exact Int.mul_tmod_right _ _
  · obtain ⟨c, hc⟩ : y ∣ x := Int.dvd_of_tmod_eq_zero e
    have hg : (Int.gcd x y : Int) = y := by
      have d1 : y ∣ (Int.gcd x y : Int) := Int.dvd_coe_gcd ⟨c, hc⟩ (Int.dvd_refl y)
      have d2 : (Int.gcd x y : Int) ∣ y := Int.gcd_dvd_right ..
      exact Int.le_antisymm (Int.le_of_dvd hy d2) (Int.le_of_dvd (by omega) d1)
    rw [← h8] at hg
    rw [hg] at h3
    have : y * q = y * 1 := by rw [← h3, Int.mul_one]
    exact Int.eq_of_mul_eq_mul_left (by omega) this
  · subst e
    rw [Int.mul_one] at h3
    rw [h2, ← h3]
    exact (Int.mul_tdiv_cancel_left p (by omega)).symm
theorem inner (a x5 : Int) (ha : 2 ≤ a ∧ a ≤ 40) (h5 : 1 ≤ x5 ∧ x5 ≤ 12) (H : ∀ L : List (List Int), (L.length : Int) ≤ 40 * x5 → (∀ x ∈ L, x.length ≤ 3) → ∃ R : List (List Int), Ev (fun k => spec_WholeShadows.l0 k a L (x5 + 1)) (R, true) ∧ Ev (fun k => impl_WholeShadows.l0 k a L (x5 + 1)) (R, true) ∧ R.length ≤ 1000 ∧ (∀ x ∈ R, x.length ≤ 3)) (n : Nat) :
    ∀ (L : List (List Int)) (x6 : Int), a - x6 = n → 1 ≤ x6 → (L.length : Int) ≤ 40 * (x5 - 1) + (x6 - 1) → (∀ x ∈ L, x.length ≤ 3) → ∃ R : List (List Int), Ev (fun k => spec_WholeShadows.l1 k a L x5 x6) (R, true) ∧ Ev (fun k => impl_WholeShadows.l1 k a L x5 x6) (R, true) ∧ R.length ≤ 1000 ∧ (∀ x ∈ R, x.length ≤ 3) := by
  induction n with
  | zero =>
    intro L x6 h0 h1 h2 h3
    obtain ⟨R, e1, e2, e3, e4⟩ := H L (by omega) h3
    refine ⟨R, stepK 0 (fun k _ => ?_) e1, stepK 0 (fun k _ => ?_) e2, e3, e4⟩
    · simp only [spec_WholeShadows.l1]
      rw [if_neg (by omega), wrap_id (by omega) (by omega)]
    · simp only [impl_WholeShadows.l1]
      rw [if_neg (by omega), wrap_id (by omega) (by omega)]
  | succ n ih =>
    intro L x6 h0 h1 h2 h3
    have hb := mulb (a := x5) (b := x6) (A := 12) (B := 40) (by omega) (by omega) (by omega) (by omega)
    obtain ⟨p, q, hl, hq, hp⟩ := low_div (x5 * x6) (a - x6) (by omega) (by omega) (by omega) (by omega)
    have w1 : wrap64 (x5 * x6) = x5 * x6 := wrap_id (by omega) (by omega)
    have w2 : wrap64 (a - x6) = a - x6 := wrap_id (by omega) (by omega)
    have w3 : wrap64 (x6 + 1) = x6 + 1 := wrap_id (by omega) (by omega)
    have hd : 0 ≤ Int.tdiv (x5 * x6) (a - x6) ∧ Int.tdiv (x5 * x6) (a - x6) ≤ x5 * x6 := by
      rw [Int.tdiv_eq_ediv_of_nonneg hb.1]
      exact ⟨Int.ediv_nonneg hb.1 (by omega), Int.ediv_le_self _ hb.1⟩
    have w4 : wrap64 (Int.tdiv (x5 * x6) (a - x6)) = Int.tdiv (x5 * x6) (a - x6) := wrap_id (by omega) (by omega)
    by_cases c : Int.tmod (x5 * x6) (a - x6) = 0
    · have q1 := hq.2 c
      have p1 := hp q1
      by_cases c2 : Int.tdiv (x5 * x6) (a - x6) ≤ 12
      · obtain ⟨R, e1, e2, e3, e4⟩ := ih (L ++ [([x5, x6, Int.tdiv (x5 * x6) (a - x6)] : List Int)]) (x6 + 1) (by omega) (by omega) (by rw [List.length_append]; simp; omega) (fun x hx => (List.mem_append.1 hx).elim (h3 x) (fun h => by rw [List.mem_singleton.1 h]; simp))
        refine ⟨R, stepK 100 (fun k hk => ?_) e1, stepK 0 (fun k _ => ?_) e2, e3, e4⟩
        · simp only [spec_WholeShadows.l1]
          rw [if_pos (by omega), w1, w2, bind_eq (hl k (by omega)), w3]
          simp only []
          rw [if_pos q1, p1, if_pos c2, if_pos (by omega)]
        · simp only [impl_WholeShadows.l1]
          rw [if_pos (by omega), w1, w2, w3, w4, if_neg (by omega), if_pos c, if_pos c2, if_pos (by omega)]
      · obtain ⟨R, e1, e2, e3, e4⟩ := ih L (x6 + 1) (by omega) (by omega) (by omega) h3
        refine ⟨R, stepK 100 (fun k hk => ?_) e1, stepK 0 (fun k _ => ?_) e2, e3, e4⟩
        · simp only [spec_WholeShadows.l1]
          rw [if_pos (by omega), w1, w2, bind_eq (hl k (by omega)), w3]
          simp only []
          rw [if_pos q1, p1, if_neg c2]
        · simp only [impl_WholeShadows.l1]
          rw [if_pos (by omega), w1, w2, w3, w4, if_neg (by omega), if_pos c, if_neg c2]
    · have q1 : ¬ q = 1 := fun h => c (hq.1 h)
      obtain ⟨R, e1, e2, e3, e4⟩ := ih L (x6 + 1) (by omega) (by omega) (by omega) h3
      refine ⟨R, stepK 100 (fun k hk => ?_) e1, stepK 0 (fun k _ => ?_) e2, e3, e4⟩
      · simp only [spec_WholeShadows.l1]
        rw [if_pos (by omega), w1, w2, bind_eq (hl k (by omega)), w3]
        simp only []
        rw [if_neg q1]
      · simp only [impl_WholeShadows.l1]
        rw [if_pos (by omega), w1, w2, w3, w4, if_neg (by omega), if_neg c]
theorem outer (a : Int) (ha : 2 ≤ a ∧ a ≤ 40) (n : Nat) : ∀ (L : List (List Int)) (x5 : Int), 13 - x5 = n → 1 ≤ x5 → (L.length : Int) ≤ 40 * (x5 - 1) → (∀ x ∈ L, x.length ≤ 3) → ∃ R : List (List Int), Ev (fun k => spec_WholeShadows.l0 k a L x5) (R, true) ∧ Ev (fun k => impl_WholeShadows.l0 k a L x5) (R, true) ∧ R.length ≤ 1000 ∧ (∀ x ∈ R, x.length ≤ 3) := by
  induction n with
  | zero =>
    intro L x5 h0 h1 h2 h3
    refine ⟨L, stepK 0 (f := fun _ => some (L, true)) (fun k _ => ?_) (Ev.now _), stepK 0 (f := fun _ => some (L, true)) (fun k _ => ?_) (Ev.now _), by omega, h3⟩
    · simp only [spec_WholeShadows.l0]
      rw [if_neg (by omega)]
    · simp only [impl_WholeShadows.l0]
      rw [if_neg (by omega)]
  | succ n ih =>
    intro L x5 h0 h1 h2 h3
    obtain ⟨R, e1, e2, e3, e4⟩ := inner a x5 ha (by omega) (fun L' h4 h5 => ih L' (x5 + 1) (by omega) (by omega) (by omega) h5) (a - 1).toNat L 1 (by omega) (by omega) (by omega) h3
    refine ⟨R, stepK 0 (fun k _ => ?_) e1, stepK 0 (fun k _ => ?_) e2, e3, e4⟩
    · simp only [spec_WholeShadows.l0]
      rw [if_pos (by omega)]
    · simp only [impl_WholeShadows.l0]
      rw [if_pos (by omega)]
end FnExactWholeShadowsL
open FnExactWholeShadowsL

theorem FnExactWholeShadows (a : Int) (W : World) : Calls Try.prog 3 #[.int .i64 a] W fun en w' => en = .returned (.bool true) ∧ Below W.heap.size W w' := by
  have key : ∃ (R : List (List Int)) (o : Bool), R.length ≤ 1000 ∧ (∀ x ∈ R, x.length ≤ 3) ∧ Ev (fun k => spec_WholeShadows.f k a) (R, o) ∧ Ev (fun k => impl_WholeShadows.f k a) (R, o) := by
    by_cases h : 2 ≤ a ∧ a ≤ 40
    · obtain ⟨R, e1, e2, e3, e4⟩ := outer a h 12 [] 1 (by omega) (by omega) (by simp) (by simp)
      refine ⟨R, true, e3, e4, congrK 0 (fun k _ => ?_) e1, congrK 0 (fun k _ => ?_) e2⟩
      · simp only [spec_WholeShadows.f, in_eq, Option.bind_some]
        rw [if_pos (decide_eq_true h)]
      · simp only [impl_WholeShadows.f, within_eq, Option.bind_some]
        rw [if_pos (decide_eq_true h)]
    · refine ⟨[], false, by simp, by simp, ⟨0, fun k _ => ?_⟩, ⟨0, fun k _ => ?_⟩⟩
      · simp only [spec_WholeShadows.f, in_eq, Option.bind_some]
        rw [if_neg (by simpa using h)]
      · simp only [impl_WholeShadows.f, within_eq, Option.bind_some]
        rw [if_neg (by simpa using h)]
  obtain ⟨R, o, h1, h2, ⟨K1, e1⟩, ⟨K2, e2⟩⟩ := key
  obtain ⟨m, R', hm0, ⟨K3, e3⟩, ⟨K4, e4⟩⟩ := rows_ev R 3 h2 (by omega) (by omega)
  obtain ⟨K5, e5⟩ := eqrows_ev R 3 h2 (by omega) (by omega)
  exact WShadows.law_walk (K1 + K2 + K3 + K4 + K5) a m o R R' W (e1 _ (by omega)) (e2 _ (by omega)) (e5 _ (by omega)) (e3 _ (by omega)) (e4 _ (by omega)) hm0

end Go.Proofs.Ytmggonkdlhghjaa.Pure
