/- The plain law of FnExactDarkPlaces: for every argument the printed law function answers true. No condition beyond the statement's own. -/
import Derived.Test.YtmggonkdlhghjaaPFnExactDarkPlacesx6
set_option linter.unusedVariables false
set_option linter.unusedSimpArgs false
namespace Go.Proofs.Ytmggonkdlhghjaa.Pure
open Go.RowKit Go.Proofs.Ytmggonkdlhghjaa.PFnExactDarkPlaces Go.Proofs.YtmggonkdlhghjaaW.PrintWords Go.Proofs.YtmggonkdlhghjaaW.PrintLast Go.Proofs.YtmggonkdlhghjaaW.PrintMore
namespace FnExactDarkPlacesL
theorem wrap_id {x : Int} (h0 : -9223372036854775808 ≤ x) (h1 : x ≤ 9223372036854775807) : wrap64 x = x := by unfold wrap64; omega

theorem in_eq (a b c : Int) : spec_l1In.f a b c = some (decide (b ≤ a ∧ a ≤ c)) := by
  unfold spec_l1In.f
  by_cases h : a ≥ b
  · rw [if_pos h]; simp [h]
  · rw [if_neg h]; simp; omega

theorem within_eq (a b c : Int) : impl_within.f a b c = some (decide (b ≤ a ∧ a ≤ c)) := by
  unfold impl_within.f
  by_cases h : a ≥ b
  · rw [if_pos h]; simp [h]
  · rw [if_neg h]; simp; omega

theorem mulb {a b A B : Int} (ha : 0 ≤ a) (ha2 : a ≤ A) (hb : 0 ≤ b) (hb2 : b ≤ B) : 0 ≤ a * b ∧ a * b ≤ A * B :=
  ⟨Int.mul_nonneg ha hb, Int.mul_le_mul ha2 hb2 hb (by omega)⟩


theorem stepK {α : Type} {g f : Nat → Option α} {r : α} (K0 : Nat) (h : ∀ k, K0 ≤ k → g (k + 1) = f k) (hf : Ev f r) : Ev g r := by
  obtain ⟨K, hK⟩ := hf
  refine ⟨K + K0 + 1, fun k hk => ?_⟩
  obtain ⟨k, rfl⟩ : ∃ m, k = m + 1 := ⟨k - 1, by omega⟩
  rw [h k (by omega), hK k (by omega)]
theorem congrK {α : Type} {g f : Nat → Option α} {r : α} (K0 : Nat) (h : ∀ k, K0 ≤ k → g k = f k) (hf : Ev f r) : Ev g r := by
  obtain ⟨K, hK⟩ := hf
  exact ⟨K + K0, fun k hk => by rw [h k (by omega), hK k (by omega)]⟩

theorem bind_eq {α β : Type} {g : Option α} {a : α} (h : g = some a) (f : α → Option β) : g.bind f = f a := by rw [h]; rfl


theorem pole_spec (a b : Int) : spec_swPole.f a b = some (decide ((1 ≤ a ∧ a ≤ 500) ∧ (1 ≤ b ∧ b ≤ 200))) := by
  simp only [spec_swPole.f, in_eq, Option.bind_some, decide_eq_true_eq]
  by_cases h : 1 ≤ a ∧ a ≤ 500 <;> simp [h]

theorem pole_impl (a b : Int) : impl_isPole.f a b = some (decide ((1 ≤ a ∧ a ≤ 500) ∧ (1 ≤ b ∧ b ≤ 200))) := by
  simp only [impl_isPole.f, impl_isPlace.f, impl_isHigh.f, within_eq, Option.bind_some, decide_eq_true_eq]
  by_cases h : 1 ≤ a ∧ a ≤ 500 <;> simp [h]


theorem both_impl (l a b : Int) : impl_isPoleOf.f l a b = some (decide ((2 ≤ l ∧ l ≤ 200) ∧ ((1 ≤ a ∧ a ≤ 500) ∧ (1 ≤ b ∧ b ≤ 200)) ∧ b < l)) := by
  simp only [impl_isPoleOf.f, impl_isLamp.f, pole_impl, within_eq, Option.bind_some, decide_eq_true_eq]
  by_cases h : 2 ≤ l ∧ l ≤ 200 <;> by_cases h2 : ((1 ≤ a ∧ a ≤ 500) ∧ (1 ≤ b ∧ b ≤ 200)) <;> simp [h, h2]



def conv (p : S63) : S61 := ⟨p.f0, p.f1⟩

theorem toPoleS_l (b : List S63) : ∀ (a : List S63), (a ++ b).length ≤ 1000000000 → Ev (fun k => laws_toPoleS.l0 k (a ++ b) (a.map conv ++ List.replicate b.length z61) (a.length : Int)) ((a ++ b).map conv) := by
  induction b with
  | nil =>
    intro a h
    refine Ev.step (f := fun _ => some ((a ++ []).map conv)) (fun k => ?_) (Ev.now _)
    simp only [laws_toPoleS.l0]
    rw [if_neg (by simp)]
    simp
  | cons p b ih =>
    intro a h
    have ih2 := ih (a ++ [p]) (by simpa using h)
    simp only [List.length_append, List.length_cons] at h
    rw [List.append_assoc, List.singleton_append] at ih2
    refine Ev.step (fun k => ?_) ih2
    simp only [laws_toPoleS.l0, laws_toPole.f, Option.bind_some]
    rw [if_pos (by simp only [List.length_append, List.length_cons]; omega), if_pos (by omega), if_pos (by simp only [List.length_append, List.length_map, List.length_replicate, List.length_cons]; omega), wrap_id (x := (a.length : Int) + 1) (by omega) (by omega)]
    have e1 : rd_T63 (a ++ p :: b) (a.length : Int) = p := by
      unfold rd_T63
      simp
    rw [e1]
    have e2 : (a.map conv ++ List.replicate (p :: b).length z61).set ((a.length : Int)).toNat (⟨p.f0, p.f1⟩ : S61) = (a ++ [p]).map conv ++ List.replicate b.length z61 := by
      rw [Int.toNat_natCast, List.set_append_right _ _ (by simp)]
      simp [List.replicate_succ, conv]
    rw [e2]
    simp

theorem toPoleS_ev (l : List S63) (h : l.length ≤ 1000000000) : Ev (fun k => laws_toPoleS.f k l) (l.map conv) := by
  refine Ev.congr (fun k => ?_) (toPoleS_l l [] (by simpa using h))
  unfold laws_toPoleS.f
  rw [if_pos (by omega), if_pos (by omega)]
  simp

theorem szPoleS_ev (l : List S63) (h : l.length * 16 ≤ 140737488351232) : laws_szPoleS.f l 1048576 = some (if (1048576 - (l.length : Int)) < 0 then -1 else 1048576 - (l.length : Int)) := by
  unfold laws_szPoleS.f
  rw [wrap_id (by omega) (by omega)]
  by_cases c : 1048576 - (l.length : Int) < 0
  · rw [if_pos c, if_pos c]
  · rw [if_neg c, if_neg c]


theorem eqPoleS_l (n : Nat) : ∀ (l : List S61) (i : Int), 0 ≤ i → (l.length : Int) - i = n → l.length ≤ 1000000000000 → Ev (fun k => laws_eqPoleS.l0 k l l i) true := by
  induction n with
  | zero =>
    intro l i h0 h1 h2
    refine Ev.step (f := fun _ => some true) (fun k => ?_) (Ev.now true)
    simp only [laws_eqPoleS.l0]
    rw [if_neg (by omega)]
  | succ n ih =>
    intro l i h0 h1 h2
    refine Ev.step (f := fun k => laws_eqPoleS.l0 k l l (i + 1)) (fun k => ?_) (ih l (i + 1) (by omega) (by omega) h2)
    simp only [laws_eqPoleS.l0, laws_eqPole.f]
    rw [if_pos (show i < (l.length : Int) by omega), if_pos h0, wrap_id (x := i + 1) (by omega) (by omega)]
    simp
    try omega

theorem eqPoleS_ev (l : List S61) (h : l.length ≤ 1000000000000) : Ev (fun k => laws_eqPoleS.f k l l) true := by
  refine Ev.congr (f := fun k => laws_eqPoleS.l0 k l l 0) (fun k => ?_) (eqPoleS_l l.length l 0 (by omega) (by omega) h)
  unfold laws_eqPoleS.f
  rw [if_pos rfl]

theorem rd_T61_set (l : List S61) (i j : Int) (v : S61) (h0 : 0 ≤ i) (h1 : i < l.length) (hj : 0 ≤ j) : rd_T61 (l.set i.toNat v) j = if j = i then v else rd_T61 l j := by
  unfold rd_T61
  rw [List.getD_eq_getElem?_getD, List.getD_eq_getElem?_getD, List.getElem?_set]
  by_cases h : j = i
  · subst h
    rw [if_pos rfl, if_pos rfl, if_pos (by omega)]
    rfl
  · rw [if_neg (by omega), if_neg h]

theorem markPoleS_l (n : Nat) : ∀ (l : List S61) (m i : Int), 0 ≤ i → (l.length : Int) - i = n → l.length ≤ 1000000000000 → 0 ≤ m → m ≤ 1000000000000000 - 2 * n →
    ∃ L : List S61, Ev (fun k => laws_markPoleS.l0 k l m i) (m + 2 * n, L) ∧ L.length = l.length ∧ (∀ j, 0 ≤ j → j < i → rd_T61 L j = rd_T61 l j) ∧ ∀ j, i ≤ j → j < l.length → (rd_T61 L j).f0 = m + 2 * (j - i) + 0 ∧ (rd_T61 L j).f1 = m + 2 * (j - i) + 1 := by
  induction n with
  | zero =>
    intro l m i h0 h1 h2 h3 h4
    refine ⟨l, Ev.step (f := fun _ => some (m, l)) (fun k => ?_) ?_, rfl, fun _ _ _ => rfl, fun j ha hb => by omega⟩
    · simp only [laws_markPoleS.l0]
      rw [if_neg (by omega)]
    · have e : m + 2 * ((0 : Nat) : Int) = m := by omega
      rw [e]; exact Ev.now _
  | succ n ih =>
    intro l m i h0 h1 h2 h3 h4
    have hlt : i < (l.length : Int) := by omega
    obtain ⟨L, he, hl, ha, hb⟩ := ih (l.set i.toNat (⟨m, m + 1⟩ : S61)) (m + 2) (i + 1) (by omega) (by rw [List.length_set]; omega) (by rw [List.length_set]; exact h2) (by omega) (by omega)
    rw [List.length_set] at hl hb
    refine ⟨L, ?_, hl, fun j hj1 hj2 => ?_, fun j hj1 hj2 => ?_⟩
    · rw [show m + 2 * ((n + 1 : Nat) : Int) = m + 2 + 2 * (n : Int) by omega]
      refine Ev.step (f := fun k => laws_markPoleS.l0 k (l.set i.toNat (⟨m, m + 1⟩ : S61)) (m + 2) (i + 1)) (fun k => ?_) he
      simp only [laws_markPoleS.l0, Option.bind_some]
      rw [if_pos hlt, if_pos h0]
      rw [wrap_id (x := m + 1) (by omega) (by omega), wrap_id (x := m + 1 + 1) (by omega) (by omega), wrap_id (x := i + 1) (by omega) (by omega)]
      have e1 := rd_T61_set l i i (⟨m, (rd_T61 l i).f1⟩ : S61) h0 hlt h0
      rw [if_pos rfl] at e1
      rw [e1, show m + 1 + 1 = m + 2 by omega]
      simp only [List.set_set]
    · rw [ha j hj1 (by omega), rd_T61_set l i j _ h0 hlt hj1, if_neg (by omega)]
    · by_cases e : j = i
      · subst e
        rw [ha j h0 (by omega), rd_T61_set l j j _ h0 hlt h0, if_pos rfl]
        simp
        try omega
      · have := hb j (by omega) hj2
        omega

/-- Marking tells a number that isn't less than 0. -/
theorem markPoleS_ev (l : List S61) (h : l.length ≤ 1000000000) :
    ∃ (m : Int) (L : List S61), 0 ≤ m ∧ Ev (fun k => laws_markPoleS.f k l 1) (m, L) := by
  obtain ⟨L, he, hl, _, hb⟩ := markPoleS_l l.length l 1 0 (by omega) (by omega) (by omega) (by omega) (by omega)
  exact ⟨_, L, by omega, he⟩

theorem eqIntS_l (n : Nat) : ∀ (l : List Int) (i : Int), 0 ≤ i → (l.length : Int) - i = n → l.length ≤ 1000000000000 → Ev (fun k => laws_eqIntS.l0 k l l i) true := by
  induction n with
  | zero =>
    intro l i h0 h1 h2
    refine Ev.step (f := fun _ => some true) (fun k => ?_) (Ev.now true)
    simp only [laws_eqIntS.l0]
    rw [if_neg (by omega)]
  | succ n ih =>
    intro l i h0 h1 h2
    refine Ev.step (f := fun k => laws_eqIntS.l0 k l l (i + 1)) (fun k => ?_) (ih l (i + 1) (by omega) (by omega) h2)
    simp only [laws_eqIntS.l0]
    rw [if_pos (show i < (l.length : Int) by omega), if_pos h0, wrap_id (x := i + 1) (by omega) (by omega)]
    simp
    try omega

theorem eqIntS_ev (l : List Int) (h : l.length ≤ 1000000000000) : Ev (fun k => laws_eqIntS.f k l l) true := by
  refine Ev.congr (f := fun k => laws_eqIntS.l0 k l l 0) (fun k => ?_) (eqIntS_l l.length l 0 (by omega) (by omega) h)
  unfold laws_eqIntS.f
  rw [if_pos rfl]

theorem rd_set (l : List Int) (i j : Int) (v : Int) (h0 : 0 ≤ i) (h1 : i < l.length) (hj : 0 ≤ j) : rd (l.set i.toNat v) j = if j = i then v else rd l j := by
  unfold rd
  rw [List.getD_eq_getElem?_getD, List.getD_eq_getElem?_getD, List.getElem?_set]
  by_cases h : j = i
  · subst h
    rw [if_pos rfl, if_pos rfl, if_pos (by omega)]
    rfl
  · rw [if_neg (by omega), if_neg h]

theorem markIntS_l (n : Nat) : ∀ (l : List Int) (m i : Int), 0 ≤ i → (l.length : Int) - i = n → l.length ≤ 1000000000000 → 0 ≤ m → m ≤ 1000000000000000 - 1 * n →
    ∃ L : List Int, Ev (fun k => laws_markIntS.l0 k l m i) (m + 1 * n, L) ∧ L.length = l.length ∧ (∀ j, 0 ≤ j → j < i → rd L j = rd l j) ∧ ∀ j, i ≤ j → j < l.length → rd L j = m + 1 * (j - i) + 0 := by
  induction n with
  | zero =>
    intro l m i h0 h1 h2 h3 h4
    refine ⟨l, Ev.step (f := fun _ => some (m, l)) (fun k => ?_) ?_, rfl, fun _ _ _ => rfl, fun j ha hb => by omega⟩
    · simp only [laws_markIntS.l0]
      rw [if_neg (by omega)]
    · have e : m + 1 * ((0 : Nat) : Int) = m := by omega
      rw [e]; exact Ev.now _
  | succ n ih =>
    intro l m i h0 h1 h2 h3 h4
    have hlt : i < (l.length : Int) := by omega
    obtain ⟨L, he, hl, ha, hb⟩ := ih (l.set i.toNat (m : Int)) (m + 1) (i + 1) (by omega) (by rw [List.length_set]; omega) (by rw [List.length_set]; exact h2) (by omega) (by omega)
    rw [List.length_set] at hl hb
    refine ⟨L, ?_, hl, fun j hj1 hj2 => ?_, fun j hj1 hj2 => ?_⟩
    · rw [show m + 1 * ((n + 1 : Nat) : Int) = m + 1 + 1 * (n : Int) by omega]
      refine Ev.step (f := fun k => laws_markIntS.l0 k (l.set i.toNat (m : Int)) (m + 1) (i + 1)) (fun k => ?_) he
      simp only [laws_markIntS.l0, Option.bind_some]
      rw [if_pos hlt, if_pos h0]
      rw [wrap_id (x := m + 1) (by omega) (by omega), wrap_id (x := i + 1) (by omega) (by omega)]
    · rw [ha j hj1 (by omega), rd_set l i j _ h0 hlt hj1, if_neg (by omega)]
    · by_cases e : j = i
      · subst e
        rw [ha j h0 (by omega), rd_set l j j _ h0 hlt h0, if_pos rfl]
        simp
        try omega
      · have := hb j (by omega) hj2
        omega

theorem heldIntS_l (n : Nat) : ∀ (l : List Int) (m i : Int), 0 ≤ i → (l.length : Int) - i = n → l.length ≤ 1000000000000 → 0 ≤ m → m ≤ 1000000000000000 - 1 * n →
    (∀ j, i ≤ j → j < l.length → rd l j = m + 1 * (j - i) + 0) → Ev (fun k => laws_heldIntS.l0 k l m i) (m + 1 * n) := by
  induction n with
  | zero =>
    intro l m i h0 h1 h2 h3 h4 h5
    refine Ev.step (f := fun _ => some m) (fun k => ?_) ?_
    · simp only [laws_heldIntS.l0]
      rw [if_neg (by omega)]
    · have e : m + 1 * ((0 : Nat) : Int) = m := by omega
      rw [e]; exact Ev.now _
  | succ n ih =>
    intro l m i h0 h1 h2 h3 h4 h5
    have hlt : i < (l.length : Int) := by omega
    have hi := h5 i (by omega) hlt
    rw [show m + 1 * ((n + 1 : Nat) : Int) = m + 1 + 1 * (n : Int) by omega]
    refine Ev.step (f := fun k => laws_heldIntS.l0 k l (m + 1) (i + 1)) (fun k => ?_) (ih l (m + 1) (i + 1) (by omega) (by omega) h2 (by omega) (by omega) (fun j hj1 hj2 => by have := h5 j (by omega) hj2; omega))
    simp only [laws_heldIntS.l0]
    rw [if_pos hlt, if_pos h0]
    rw [if_pos (by omega), wrap_id (x := m + 1) (by omega) (by omega), wrap_id (x := i + 1) (by omega) (by omega)]

/-- What is marked is held, as often as it is asked. -/
theorem markIntS_ev (l : List Int) (h : l.length ≤ 1000000000) :
    ∃ (m : Int) (L : List Int), 0 ≤ m ∧ Ev (fun k => laws_markIntS.f k l 1) (m, L) ∧ Ev (fun k => laws_heldIntS.f k L 1) m := by
  obtain ⟨L, he, hl, _, hb⟩ := markIntS_l l.length l 1 0 (by omega) (by omega) (by omega) (by omega) (by omega)
  have hh := heldIntS_l l.length L 1 0 (by omega) (by omega) (by omega) (by omega) (by omega) (fun j hj1 hj2 => hb j hj1 (by omega))
  exact ⟨_, L, by omega, he, hh⟩

/-- What both sides take for poles of a lamp. -/
def OkRow (l : List S61) (j : Int) : Prop := ((1 ≤ (rd_T61 l j).f0 ∧ (rd_T61 l j).f0 ≤ 500) ∧ (1 ≤ (rd_T61 l j).f1 ∧ (rd_T61 l j).f1 ≤ 200)) ∧ (0 < j → (rd_T61 l (j - 1)).f0 < (rd_T61 l j).f0)
def Good (m : Int) (l : List S61) : Prop := (2 ≤ m ∧ m ≤ 200) ∧ (1 ≤ (l.length : Int) ∧ (l.length : Int) ≤ 6) ∧ ∀ j : Int, 0 ≤ j → j < l.length → OkRow l j ∧ (rd_T61 l j).f1 < m

theorem row_l (n : Nat) : ∀ (l : List S61) (i : Int), 0 ≤ i → (l.length : Int) - i = n → l.length ≤ 1000000000 → ∃ b : Bool, Ev (fun k => spec_swRow.l0 k l l (l.length : Int) i) b ∧ (b = true ↔ ∀ j, i ≤ j → j < l.length → OkRow l j) := by
  induction n with
  | zero =>
    intro l i h0 h1 h2
    refine ⟨true, Ev.step (f := fun _ => some true) (fun k => ?_) (Ev.now _), by simp; intro j _ _; omega⟩
    simp only [spec_swRow.l0]
    rw [if_neg (by omega)]
  | succ n ih =>
    intro l i h0 h1 h2
    obtain ⟨b, hb, hi⟩ := ih l (i + 1) (by omega) (by omega) h2
    have hlt : i < (l.length : Int) := by omega
    by_cases c : (1 ≤ (rd_T61 l i).f0 ∧ (rd_T61 l i).f0 ≤ 500) ∧ (1 ≤ (rd_T61 l i).f1 ∧ (rd_T61 l i).f1 ≤ 200)
    · by_cases c2 : 0 < i ∧ (rd_T61 l i).f0 ≤ (rd_T61 l (i - 1)).f0
      · refine ⟨false, Ev.step (f := fun _ => some false) (fun k => ?_) (Ev.now _), ?_⟩
        · simp only [spec_swRow.l0, pole_spec, Option.bind_some, decide_eq_true_eq]
          rw [if_pos hlt, if_pos h0, if_pos hlt, if_pos c, if_pos c2.1, wrap_id (x := i - 1) (by omega) (by omega), if_pos (by omega), if_pos (by omega), if_pos c2.2]
        · simp only [Bool.false_eq_true, false_iff]
          intro H
          have := (H i (by omega) hlt).2 c2.1
          omega
      · refine ⟨b, Ev.step (fun k => ?_) hb, ?_⟩
        · simp only [spec_swRow.l0, pole_spec, Option.bind_some, decide_eq_true_eq]
          rw [if_pos hlt, if_pos h0, if_pos hlt, if_pos c, wrap_id (x := i + 1) (by omega) (by omega)]
          by_cases c3 : i > 0
          · rw [if_pos c3, wrap_id (x := i - 1) (by omega) (by omega), if_pos (by omega), if_pos (by omega), if_neg (fun h => c2 ⟨c3, h⟩)]
          · rw [if_neg c3]
        · rw [hi]
          constructor
          · intro H j h3 h4
            by_cases e : j = i
            · subst e
              exact ⟨c, fun hp => by omega⟩
            · exact H j (by omega) h4
          · intro H j h3 h4
            exact H j (by omega) h4
    · refine ⟨false, Ev.step (f := fun _ => some false) (fun k => ?_) (Ev.now _), ?_⟩
      · simp only [spec_swRow.l0, pole_spec, Option.bind_some, decide_eq_true_eq]
        rw [if_pos hlt, if_pos h0, if_pos hlt, if_neg c]
      · simp only [Bool.false_eq_true, false_iff]
        intro H
        exact c (H i (by omega) hlt).1

theorem low_l (m : Int) (n : Nat) : ∀ (l : List S61) (i : Int), 0 ≤ i → (l.length : Int) - i = n → l.length ≤ 1000000000 → ∃ b : Bool, Ev (fun k => spec_swGood.l0 k m l (l.length : Int) i) b ∧ (b = true ↔ ∀ j, i ≤ j → j < l.length → (rd_T61 l j).f1 < m) := by
  induction n with
  | zero =>
    intro l i h0 h1 h2
    refine ⟨true, Ev.step (f := fun _ => some true) (fun k => ?_) (Ev.now _), by simp; intro j _ _; omega⟩
    simp only [spec_swGood.l0]
    rw [if_neg (by omega)]
  | succ n ih =>
    intro l i h0 h1 h2
    obtain ⟨b, hb, hi⟩ := ih l (i + 1) (by omega) (by omega) h2
    have hlt : i < (l.length : Int) := by omega
    by_cases c : (rd_T61 l i).f1 ≥ m
    · refine ⟨false, Ev.step (f := fun _ => some false) (fun k => ?_) (Ev.now _), ?_⟩
      · simp only [spec_swGood.l0]
        rw [if_pos hlt, if_pos h0, if_pos hlt, if_pos c]
      · simp only [Bool.false_eq_true, false_iff]
        intro H
        have := H i (by omega) hlt
        omega
    · refine ⟨b, Ev.step (fun k => ?_) hb, ?_⟩
      · simp only [spec_swGood.l0]
        rw [if_pos hlt, if_pos h0, if_pos hlt, if_neg c, wrap_id (x := i + 1) (by omega) (by omega)]
      · rw [hi]
        constructor
        · intro H j h3 h4
          by_cases e : j = i
          · subst e; omega
          · exact H j (by omega) h4
        · intro H j h3 h4
          exact H j (by omega) h4

theorem are_l (m : Int) (n : Nat) : ∀ (l : List S61) (i : Int), 0 ≤ i → (l.length : Int) - i = n → l.length ≤ 1000000000 →
    ∃ b : Bool, Ev (fun k => impl_ArePoles.l0 k m l l (l.length : Int) i) b ∧ (b = true ↔ (∀ j, i ≤ j → j < l.length → (2 ≤ m ∧ m ≤ 200) ∧ OkRow l j ∧ (rd_T61 l j).f1 < m) ∧ (1 ≤ (l.length : Int) ∧ (l.length : Int) ≤ 6)) := by
  induction n with
  | zero =>
    intro l i h0 h1 h2
    refine ⟨decide (1 ≤ (l.length : Int) ∧ (l.length : Int) ≤ 6), Ev.step (f := fun _ => some (decide (1 ≤ (l.length : Int) ∧ (l.length : Int) ≤ 6))) (fun k => ?_) (Ev.now _), ?_⟩
    · simp only [impl_ArePoles.l0, within_eq, Option.bind_some]
      rw [if_neg (by omega)]
    · rw [decide_eq_true_eq]
      exact ⟨fun h => ⟨fun j _ _ => by omega, h⟩, fun h => h.2⟩
  | succ n ih =>
    intro l i h0 h1 h2
    obtain ⟨b, hb, hi⟩ := ih l (i + 1) (by omega) (by omega) h2
    have hlt : i < (l.length : Int) := by omega
    by_cases c : (2 ≤ m ∧ m ≤ 200) ∧ ((1 ≤ (rd_T61 l i).f0 ∧ (rd_T61 l i).f0 ≤ 500) ∧ (1 ≤ (rd_T61 l i).f1 ∧ (rd_T61 l i).f1 ≤ 200)) ∧ (rd_T61 l i).f1 < m
    · by_cases c2 : 0 < i ∧ (rd_T61 l i).f0 ≤ (rd_T61 l (i - 1)).f0
      · refine ⟨false, Ev.step (f := fun _ => some false) (fun k => ?_) (Ev.now _), ?_⟩
        · simp only [impl_ArePoles.l0, both_impl, Option.bind_some, decide_eq_true_eq]
          rw [if_pos hlt, if_pos h0, if_pos hlt, if_pos c, if_pos c2.1, wrap_id (x := i - 1) (by omega) (by omega), if_pos (by omega), if_pos (by omega), if_pos (show (rd_T61 l (i - 1)).f0 ≥ (rd_T61 l i).f0 from c2.2)]
        · simp only [Bool.false_eq_true, false_iff]
          intro H
          have := (H.1 i (by omega) hlt).2.1.2 c2.1
          omega
      · refine ⟨b, Ev.step (fun k => ?_) hb, ?_⟩
        · simp only [impl_ArePoles.l0, both_impl, Option.bind_some, decide_eq_true_eq]
          rw [if_pos hlt, if_pos h0, if_pos hlt, if_pos c, wrap_id (x := i + 1) (by omega) (by omega)]
          by_cases c3 : i > 0
          · rw [if_pos c3, wrap_id (x := i - 1) (by omega) (by omega), if_pos (by omega), if_pos (by omega), if_neg (fun h => c2 ⟨c3, h⟩)]
          · rw [if_neg c3]
        · rw [hi]
          constructor
          · intro H
            refine ⟨fun j h3 h4 => ?_, H.2⟩
            by_cases e : j = i
            · subst e
              exact ⟨c.1, ⟨c.2.1, fun hp => by omega⟩, c.2.2⟩
            · exact H.1 j (by omega) h4
          · intro H
            exact ⟨fun j h3 h4 => H.1 j (by omega) h4, H.2⟩
    · refine ⟨false, Ev.step (f := fun _ => some false) (fun k => ?_) (Ev.now _), ?_⟩
      · simp only [impl_ArePoles.l0, both_impl, Option.bind_some, decide_eq_true_eq]
        rw [if_pos hlt, if_pos h0, if_pos hlt, if_neg c]
      · simp only [Bool.false_eq_true, false_iff]
        intro H
        have := H.1 i (by omega) hlt
        exact c ⟨this.1, this.2.1.1, this.2.2⟩

/-- Both sides tell alike whether there are poles of a lamp. -/
theorem good_ev (m : Int) (l : List S61) (h : l.length ≤ 1000000000) : ∃ b : Bool, Ev (fun k => spec_swGood.f k m l) b ∧ Ev (fun k => impl_ArePoles.f k m l) b ∧ (b = true ↔ Good m l) := by
  obtain ⟨b1, e1, i1⟩ := are_l m l.length l 0 (by omega) (by omega) h
  obtain ⟨b2, e2, i2⟩ := row_l l.length l 0 (by omega) (by omega) h
  obtain ⟨b3, e3, i3⟩ := low_l m l.length l 0 (by omega) (by omega) h
  have i1' : b1 = true ↔ Good m l := by
    rw [i1]
    constructor
    · intro H
      have h0 := H.1 0 (by omega) (by omega)
      exact ⟨h0.1, H.2, fun j hj hj2 => (H.1 j hj hj2).2⟩
    · intro H
      exact ⟨fun j hj hj2 => ⟨H.1, H.2.2 j hj hj2⟩, H.2.1⟩
  refine ⟨b1, ?_, e1, i1'⟩
  obtain ⟨K2, k2⟩ := e2
  obtain ⟨K3, k3⟩ := e3
  replace k2 : ∀ k, K2 ≤ k → spec_swRow.l0 k l l (l.length : Int) 0 = some b2 := k2
  replace k3 : ∀ k, K3 ≤ k → spec_swGood.l0 k m l (l.length : Int) 0 = some b3 := k3
  refine ⟨K2 + K3 + 5, fun k hk => ?_⟩
  obtain ⟨k, rfl⟩ : ∃ m, k = m + 1 := ⟨k - 1, by omega⟩
  simp only [spec_swGood.f, spec_swLamp.f, spec_swRow.f, in_eq, Option.bind_some, decide_eq_true_eq]
  by_cases c1 : 2 ≤ m ∧ m ≤ 200
  · rw [if_pos c1]
    by_cases c2 : 1 ≤ (l.length : Int) ∧ (l.length : Int) ≤ 6
    · rw [if_pos c2, k2 (k + 1) (by omega)]
      simp only [Option.bind_some, spec_swGood.j0]
      cases b2
      · rw [if_pos (show (!false) = true from rfl)]
        have : b1 = false := by
          rw [← Bool.not_eq_true, i1']
          intro H
          exact absurd (i2.2 (fun j hj hj2 => (H.2.2 j hj hj2).1)) (by simp)
        rw [this]
      · rw [if_neg (show ¬ (!true) = true by simp), k3 k (by omega)]
        congr 1
        rw [Bool.eq_iff_iff, i3, i1']
        constructor
        · intro H
          exact ⟨c1, c2, fun j hj hj2 => ⟨i2.1 rfl j hj hj2, H j hj hj2⟩⟩
        · intro H j hj hj2
          exact (H.2.2 j hj hj2).2
    · rw [if_neg c2]
      simp only [Option.bind_some, spec_swGood.j0]
      rw [if_pos (show (!false) = true from rfl)]
      have : b1 = false := by
        rw [← Bool.not_eq_true, i1']
        intro H
        exact c2 H.2.1
      rw [this]
  · rw [if_neg c1]
    simp only [spec_swGood.j0]
    rw [if_pos trivial]
    have : b1 = false := by
      rw [← Bool.not_eq_true, i1']
      intro H
      exact c1 H.1
    rw [this]

theorem dark_on (m t : Int) (l : List S61) (hl : l.length ≤ 1000000000) (D : List Int) (hD : D.length ≤ 1000000) (w : Int) (hw : 0 ≤ w ∧ w ≤ 1000) (n : Nat) : ∀ (i : Int), 0 ≤ i → (l.length : Int) - i = n →
    ∀ R, Ev (fun k => spec_DarkPlaces.l0 k m l t (D ++ [w]) (w + 1)) R → Ev (fun k => spec_DarkPlaces.l1 k m l t D w true l (l.length : Int) i) R := by
  induction n with
  | zero =>
    intro i h0 h1 R hR
    refine Ev.step (fun k => ?_) hR
    simp only [spec_DarkPlaces.l1]
    rw [if_neg (by omega), if_pos trivial, if_pos (by omega), wrap_id (x := w + 1) (by omega) (by omega)]
  | succ n ih =>
    intro i h0 h1 R hR
    have hlt : i < (l.length : Int) := by omega
    refine Ev.step (fun k => ?_) (ih (i + 1) (by omega) (by omega) R hR)
    simp only [spec_DarkPlaces.l1]
    rw [if_pos hlt, if_pos h0, if_pos hlt, if_pos trivial, wrap_id (x := i + 1) (by omega) (by omega)]

theorem dark_off (m t : Int) (l : List S61) (hl : l.length ≤ 1000000000) (D : List Int) (hD : D.length ≤ 1000000) (w : Int) (hw : 0 ≤ w ∧ w ≤ 1000) (n : Nat) : ∀ (i : Int), 0 ≤ i → (l.length : Int) - i = n →
    ∃ D' : List Int, D'.length ≤ D.length + 1 ∧ (∀ R, Ev (fun k => spec_DarkPlaces.l0 k m l t D' (w + 1)) R → Ev (fun k => spec_DarkPlaces.l1 k m l t D w false l (l.length : Int) i) R) ∧
      (∀ R, Ev (fun k => impl_DarkPlaces.l0 k m l t D' (w + 1)) R → Ev (fun k => impl_DarkPlaces.l1 k m l t D w l (l.length : Int) i) R) := by
  induction n with
  | zero =>
    intro i h0 h1
    refine ⟨D, by omega, fun R hR => Ev.step (fun k => ?_) hR, fun R hR => Ev.step (fun k => ?_) hR⟩
    · simp only [spec_DarkPlaces.l1]
      rw [if_neg (by omega), if_neg (by simp), wrap_id (x := w + 1) (by omega) (by omega)]
    · simp only [impl_DarkPlaces.l1]
      rw [if_neg (by omega), wrap_id (x := w + 1) (by omega) (by omega)]
  | succ n ih =>
    intro i h0 h1
    have hlt : i < (l.length : Int) := by omega
    by_cases c : w > (rd_T61 l i).f0
    · by_cases c2 : (wrap64 (w * (wrap64 (m - ((rd_T61 l i).f1))))) ≤ (wrap64 (((rd_T61 l i).f0) * m))
      · refine ⟨D ++ [w], by simp, fun R hR => Ev.step (fun k => ?_) (dark_on m t l hl D hD w hw n (i + 1) (by omega) (by omega) R hR), fun R hR => Ev.step (fun k => ?_) hR⟩
        · simp only [spec_DarkPlaces.l1]
          rw [if_pos hlt, if_pos h0, if_pos hlt, if_neg (by simp), if_pos c, decide_eq_true c2, wrap_id (x := i + 1) (by omega) (by omega)]
        · simp only [impl_DarkPlaces.l1]
          rw [if_pos hlt, if_pos h0, if_pos hlt, if_pos c, if_pos c2, if_pos (by omega), wrap_id (x := w + 1) (by omega) (by omega)]
      · obtain ⟨D', hD', e1, e2⟩ := ih (i + 1) (by omega) (by omega)
        refine ⟨D', hD', fun R hR => Ev.step (fun k => ?_) (e1 R hR), fun R hR => Ev.step (fun k => ?_) (e2 R hR)⟩
        · simp only [spec_DarkPlaces.l1]
          rw [if_pos hlt, if_pos h0, if_pos hlt, if_neg (by simp), if_pos c, decide_eq_false c2, wrap_id (x := i + 1) (by omega) (by omega)]
        · simp only [impl_DarkPlaces.l1]
          rw [if_pos hlt, if_pos h0, if_pos hlt, if_pos c, if_neg c2, wrap_id (x := i + 1) (by omega) (by omega)]
    · obtain ⟨D', hD', e1, e2⟩ := ih (i + 1) (by omega) (by omega)
      refine ⟨D', hD', fun R hR => Ev.step (fun k => ?_) (e1 R hR), fun R hR => Ev.step (fun k => ?_) (e2 R hR)⟩
      · simp only [spec_DarkPlaces.l1]
        rw [if_pos hlt, if_pos h0, if_pos hlt, if_neg (by simp), if_neg c, wrap_id (x := i + 1) (by omega) (by omega)]
      · simp only [impl_DarkPlaces.l1]
        rw [if_pos hlt, if_pos h0, if_pos hlt, if_neg c, wrap_id (x := i + 1) (by omega) (by omega)]

theorem dark_l0 (m t : Int) (ht : t ≤ 500) (l : List S61) (hl : l.length ≤ 1000000000) (n : Nat) : ∀ (D : List Int) (w : Int), 0 ≤ w → w ≤ 501 → t + 1 - w ≤ n → D.length + n ≤ 1000 →
    ∃ R : List Int, Ev (fun k => spec_DarkPlaces.l0 k m l t D w) (R, true) ∧ Ev (fun k => impl_DarkPlaces.l0 k m l t D w) (R, true) ∧ R.length ≤ 1000 := by
  induction n with
  | zero =>
    intro D w h0 h1 h2 h3
    refine ⟨D, Ev.step (f := fun _ => some (D, true)) (fun k => ?_) (Ev.now _), Ev.step (f := fun _ => some (D, true)) (fun k => ?_) (Ev.now _), by omega⟩
    · simp only [spec_DarkPlaces.l0]
      rw [if_neg (by omega)]
    · simp only [impl_DarkPlaces.l0]
      rw [if_neg (by omega)]
  | succ n ih =>
    intro D w h0 h1 h2 h3
    by_cases c : w ≤ t
    · obtain ⟨D', hD', e1, e2⟩ := dark_off m t l hl D (by omega) w (by omega) l.length 0 (by omega) (by omega)
      obtain ⟨R, r1, r2, r3⟩ := ih D' (w + 1) (by omega) (by omega) (by omega) (by omega)
      refine ⟨R, Ev.step (fun k => ?_) (e1 _ r1), Ev.step (fun k => ?_) (e2 _ r2), r3⟩
      · simp only [spec_DarkPlaces.l0]
        rw [if_pos c]
      · simp only [impl_DarkPlaces.l0]
        rw [if_pos c]
    · refine ⟨D, Ev.step (f := fun _ => some (D, true)) (fun k => ?_) (Ev.now _), Ev.step (f := fun _ => some (D, true)) (fun k => ?_) (Ev.now _), by omega⟩
      · simp only [spec_DarkPlaces.l0]
        rw [if_neg c]
      · simp only [impl_DarkPlaces.l0]
        rw [if_neg c]

theorem dark_ev (m t : Int) (l : List S61) (hl : l.length ≤ 1000000000) : ∃ (R : List Int) (o : Bool), Ev (fun k => spec_DarkPlaces.f k m l t) (R, o) ∧ Ev (fun k => impl_DarkPlaces.f k m l t) (R, o) ∧ R.length ≤ 1000 := by
  obtain ⟨b, ⟨K1, h1⟩, ⟨K2, h2⟩, hb⟩ := good_ev m l hl
  by_cases c : 0 ≤ t ∧ t ≤ 500
  · cases b
    · refine ⟨[], false, ⟨K1 + 1, fun k hk => ?_⟩, ⟨K2 + 1, fun k hk => ?_⟩, by simp⟩
      · obtain ⟨k, rfl⟩ : ∃ m, k = m + 1 := ⟨k - 1, by omega⟩
        simp [spec_DarkPlaces.f, spec_DarkPlaces.j0, h1 (k + 1) (by omega)]
      · obtain ⟨k, rfl⟩ : ∃ m, k = m + 1 := ⟨k - 1, by omega⟩
        simp [impl_DarkPlaces.f, impl_DarkPlaces.j0, h2 (k + 1) (by omega)]
    · obtain ⟨R, e1, e2, e3⟩ := dark_l0 m t c.2 l hl 501 [] 0 (by omega) (by omega) (by omega) (by simp)
      refine ⟨R, true, stepK K1 (fun k hk => ?_) e1, stepK K2 (fun k hk => ?_) e2, e3⟩
      · simp [spec_DarkPlaces.f, spec_DarkPlaces.j0, h1 (k + 1) (by omega), in_eq, c]
      · simp [impl_DarkPlaces.f, impl_DarkPlaces.j0, h2 (k + 1) (by omega), within_eq, c]
  · have e : (!decide (0 ≤ t ∧ t ≤ 500)) = true := by simp only [c]; rfl
    refine ⟨[], false, ⟨K1 + 1, fun k hk => ?_⟩, ⟨K2 + 1, fun k hk => ?_⟩, by simp⟩
    · obtain ⟨k, rfl⟩ : ∃ m, k = m + 1 := ⟨k - 1, by omega⟩
      simp only [spec_DarkPlaces.f, h1 (k + 1) (by omega), in_eq, Option.bind_some, e, spec_DarkPlaces.j0]
      cases b <;> rfl
    · obtain ⟨k, rfl⟩ : ∃ m, k = m + 1 := ⟨k - 1, by omega⟩
      simp only [impl_DarkPlaces.f, h2 (k + 1) (by omega), within_eq, Option.bind_some, e, impl_DarkPlaces.j0]
      cases b <;> rfl
end FnExactDarkPlacesL
open FnExactDarkPlacesL

theorem FnExactDarkPlaces (m : Int) (l : List S63) (t : Int) (_ : (Lit.int .i64 m).wf = true) (h : l.length * 16 ≤ 140737488351232) (_ : (Lit.int .i64 t).wf = true) : ∃ k, laws_FnExactDarkPlaces.f k m l t = some true := by
  have hz := szPoleS_ev l h
  by_cases c : 1048576 - (l.length : Int) < 0
  · refine ⟨1, ?_⟩
    unfold laws_FnExactDarkPlaces.f
    rw [hz, if_pos c]
    simp
  · obtain ⟨K1, h1⟩ := toPoleS_ev l (by omega)
    obtain ⟨R, o, ⟨K2, h2⟩, ⟨K3, h3⟩, hR⟩ := dark_ev m t (l.map conv) (by simp; omega)
    obtain ⟨K4, h4⟩ := eqPoleS_ev (l.map conv) (by simp; omega)
    obtain ⟨K5, h5⟩ := eqIntS_ev R (by omega)
    obtain ⟨q, Q, hq, ⟨K6, h6⟩⟩ := markPoleS_ev (l.map conv) (by simp; omega)
    obtain ⟨p, P, hp, ⟨K7, h7⟩, ⟨K8, h8⟩⟩ := markIntS_ev R (by omega)
    obtain ⟨K, g1, g2, g3, g4, g5, g6, g7, g8⟩ : ∃ K, K1 ≤ K ∧ K2 ≤ K ∧ K3 ≤ K ∧ K4 ≤ K ∧ K5 ≤ K ∧ K6 ≤ K ∧ K7 ≤ K ∧ K8 ≤ K := ⟨K1 + K2 + K3 + K4 + K5 + K6 + K7 + K8, by omega, by omega, by omega, by omega, by omega, by omega, by omega, by omega⟩
    rw [if_neg c] at hz
    have hn : ¬ q < 0 := by omega
    have hn2 : ¬ p < 0 := by omega
    have no : ¬ (o != o) = true := by simp
    refine ⟨K + 3, ?_⟩
    rw [laws_FnExactDarkPlaces.f, bind_eq hz, if_neg c, bind_eq (h1 (K + 3) (by omega)), bind_eq (h2 (K + 3) (by omega)), bind_eq (h1 (K + 3) (by omega)), bind_eq (h3 (K + 3) (by omega)), bind_eq (h5 (K + 3) (by omega)), if_pos rfl,
      laws_FnExactDarkPlaces.j0, if_neg no, bind_eq (h1 (K + 2) (by omega)), bind_eq (h4 (K + 2) (by omega)), if_pos rfl, bind_eq (h6 (K + 2) (by omega)), if_neg hn, bind_eq (h5 (K + 2) (by omega)), if_pos rfl,
      laws_FnExactDarkPlaces.j1, if_neg no, bind_eq (h7 (K + 1) (by omega)), bind_eq (h8 (K + 1) (by omega)), if_neg hn2, if_pos rfl, bind_eq (h1 (K + 1) (by omega)), bind_eq (h3 (K + 1) (by omega)), bind_eq (h5 (K + 1) (by omega)), if_pos rfl,
      laws_FnExactDarkPlaces.j2, if_neg no, bind_eq (h8 K g8), if_neg hn2, if_pos rfl]

end Go.Proofs.Ytmggonkdlhghjaa.Pure
