/- The plain law of FnExactPairsFor: for every argument the printed law function answers true. No condition beyond the statement's own. -/
import Derived.Test.YtheeghlfckhdeaaPairs
set_option linter.unusedVariables false
set_option linter.unusedSimpArgs false
namespace Go.Proofs.Ytheeghlfckhdeaa.Pure
open Go.RowKit Go.Proofs.Ytheeghlfckhdeaa.PFnExactPairsFor Go.Proofs.YtheeghlfckhdeaaW.PrintWords Go.Proofs.YtheeghlfckhdeaaW.PrintLast Go.Proofs.YtheeghlfckhdeaaW.PrintMore Go.Proofs.Ytheeghlfckhdeaa.MarkSS
namespace FnExactPairsForL
theorem wrap_id {x : Int} (h0 : -9223372036854775808 ≤ x) (h1 : x ≤ 9223372036854775807) : wrap64 x = x := by unfold wrap64; omega

theorem in_eq (a b c : Int) : spec_l1In.f a b c = some (decide (b ≤ a ∧ a ≤ c)) := by
  unfold spec_l1In.f
  by_cases h : a ≥ b
  · rw [if_pos h]; simp [h]
  · rw [if_neg h]; simp; omega

theorem within_eq (a b c : Int) : impl_within.f a b c = some (decide (b ≤ a ∧ a ≤ c)) := by
  unfold impl_within.f
  by_cases h : a ≥ b
  · rw [if_pos h]; simp [h]
  · rw [if_neg h]; simp; omega

theorem mulb {a b A B : Int} (ha : 0 ≤ a) (ha2 : a ≤ A) (hb : 0 ≤ b) (hb2 : b ≤ B) : 0 ≤ a * b ∧ a * b ≤ A * B :=
  ⟨Int.mul_nonneg ha hb, Int.mul_le_mul ha2 hb2 hb (by omega)⟩


theorem stepK {α : Type} {g f : Nat → Option α} {r : α} (K0 : Nat) (h : ∀ k, K0 ≤ k → g (k + 1) = f k) (hf : Ev f r) : Ev g r := by
  obtain ⟨K, hK⟩ := hf
  refine ⟨K + K0 + 1, fun k hk => ?_⟩
  obtain ⟨k, rfl⟩ : ∃ m, k = m + 1 := ⟨k - 1, by omega⟩
  rw [h k (by omega), hK k (by omega)]
theorem congrK {α : Type} {g f : Nat → Option α} {r : α} (K0 : Nat) (h : ∀ k, K0 ≤ k → g k = f k) (hf : Ev f r) : Ev g r := by
  obtain ⟨K, hK⟩ := hf
  exact ⟨K + K0, fun k hk => by rw [h k (by omega), hK k (by omega)]⟩

theorem bind_eq {α β : Type} {g : Option α} {a : α} (h : g = some a) (f : α → Option β) : g.bind f = f a := by rw [h]; rfl



theorem eqIntS_l (n : Nat) : ∀ (l : List Int) (i : Int), 0 ≤ i → (l.length : Int) - i = n → l.length ≤ 1000000000000 → Ev (fun k => laws_eqIntS.l0 k l l i) true := by
  induction n with
  | zero =>
    intro l i h0 h1 h2
    refine Ev.step (f := fun _ => some true) (fun k => ?_) (Ev.now true)
    simp only [laws_eqIntS.l0]
    rw [if_neg (by omega)]
  | succ n ih =>
    intro l i h0 h1 h2
    refine Ev.step (f := fun k => laws_eqIntS.l0 k l l (i + 1)) (fun k => ?_) (ih l (i + 1) (by omega) (by omega) h2)
    simp only [laws_eqIntS.l0]
    rw [if_pos (show i < (l.length : Int) by omega), if_pos h0, wrap_id (x := i + 1) (by omega) (by omega)]
    simp
    try omega

theorem eqIntS_ev (l : List Int) (h : l.length ≤ 1000000000000) : Ev (fun k => laws_eqIntS.f k l l) true := by
  refine Ev.congr (f := fun k => laws_eqIntS.l0 k l l 0) (fun k => ?_) (eqIntS_l l.length l 0 (by omega) (by omega) h)
  unfold laws_eqIntS.f
  rw [if_pos rfl]

theorem rd_set (l : List Int) (i j : Int) (v : Int) (h0 : 0 ≤ i) (h1 : i < l.length) (hj : 0 ≤ j) : rd (l.set i.toNat v) j = if j = i then v else rd l j := by
  unfold rd
  rw [List.getD_eq_getElem?_getD, List.getD_eq_getElem?_getD, List.getElem?_set]
  by_cases h : j = i
  · subst h
    rw [if_pos rfl, if_pos rfl, if_pos (by omega)]
    rfl
  · rw [if_neg (by omega), if_neg h]

theorem markIntS_l (n : Nat) : ∀ (l : List Int) (m i : Int), 0 ≤ i → (l.length : Int) - i = n → l.length ≤ 1000000000000 → 0 ≤ m → m ≤ 1000000000000000 - 1 * n →
    ∃ L : List Int, Ev (fun k => laws_markIntS.l0 k l m i) (m + 1 * n, L) ∧ L.length = l.length ∧ (∀ j, 0 ≤ j → j < i → rd L j = rd l j) ∧ ∀ j, i ≤ j → j < l.length → rd L j = m + 1 * (j - i) + 0 := by
  induction n with
  | zero =>
    intro l m i h0 h1 h2 h3 h4
    refine ⟨l, Ev.step (f := fun _ => some (m, l)) (fun k => ?_) ?_, rfl, fun _ _ _ => rfl, fun j ha hb => by omega⟩
    · simp only [laws_markIntS.l0]
      rw [if_neg (by omega)]
    · have e : m + 1 * ((0 : Nat) : Int) = m := by omega
      rw [e]; exact Ev.now _
  | succ n ih =>
    intro l m i h0 h1 h2 h3 h4
    have hlt : i < (l.length : Int) := by omega
    obtain ⟨L, he, hl, ha, hb⟩ := ih (l.set i.toNat (m : Int)) (m + 1) (i + 1) (by omega) (by rw [List.length_set]; omega) (by rw [List.length_set]; exact h2) (by omega) (by omega)
    rw [List.length_set] at hl hb
    refine ⟨L, ?_, hl, fun j hj1 hj2 => ?_, fun j hj1 hj2 => ?_⟩
    · rw [show m + 1 * ((n + 1 : Nat) : Int) = m + 1 + 1 * (n : Int) by omega]
      refine Ev.step (f := fun k => laws_markIntS.l0 k (l.set i.toNat (m : Int)) (m + 1) (i + 1)) (fun k => ?_) he
      simp only [laws_markIntS.l0, Option.bind_some]
      rw [if_pos hlt, if_pos h0]
      rw [wrap_id (x := m + 1) (by omega) (by omega), wrap_id (x := i + 1) (by omega) (by omega)]
    · rw [ha j hj1 (by omega), rd_set l i j _ h0 hlt hj1, if_neg (by omega)]
    · by_cases e : j = i
      · subst e
        rw [ha j h0 (by omega), rd_set l j j _ h0 hlt h0, if_pos rfl]
        simp
        try omega
      · have := hb j (by omega) hj2
        omega

theorem heldIntS_l (n : Nat) : ∀ (l : List Int) (m i : Int), 0 ≤ i → (l.length : Int) - i = n → l.length ≤ 1000000000000 → 0 ≤ m → m ≤ 1000000000000000 - 1 * n →
    (∀ j, i ≤ j → j < l.length → rd l j = m + 1 * (j - i) + 0) → Ev (fun k => laws_heldIntS.l0 k l m i) (m + 1 * n) := by
  induction n with
  | zero =>
    intro l m i h0 h1 h2 h3 h4 h5
    refine Ev.step (f := fun _ => some m) (fun k => ?_) ?_
    · simp only [laws_heldIntS.l0]
      rw [if_neg (by omega)]
    · have e : m + 1 * ((0 : Nat) : Int) = m := by omega
      rw [e]; exact Ev.now _
  | succ n ih =>
    intro l m i h0 h1 h2 h3 h4 h5
    have hlt : i < (l.length : Int) := by omega
    have hi := h5 i (by omega) hlt
    rw [show m + 1 * ((n + 1 : Nat) : Int) = m + 1 + 1 * (n : Int) by omega]
    refine Ev.step (f := fun k => laws_heldIntS.l0 k l (m + 1) (i + 1)) (fun k => ?_) (ih l (m + 1) (i + 1) (by omega) (by omega) h2 (by omega) (by omega) (fun j hj1 hj2 => by have := h5 j (by omega) hj2; omega))
    simp only [laws_heldIntS.l0]
    rw [if_pos hlt, if_pos h0]
    rw [if_pos (by omega), wrap_id (x := m + 1) (by omega) (by omega), wrap_id (x := i + 1) (by omega) (by omega)]

/-- What is marked is held, as often as it is asked. -/
theorem markIntS_ev (l : List Int) (h : l.length ≤ 1000000000) :
    ∃ (m : Int) (L : List Int), 0 ≤ m ∧ Ev (fun k => laws_markIntS.f k l 1) (m, L) ∧ Ev (fun k => laws_heldIntS.f k L 1) m := by
  obtain ⟨L, he, hl, _, hb⟩ := markIntS_l l.length l 1 0 (by omega) (by omega) (by omega) (by omega) (by omega)
  have hh := heldIntS_l l.length L 1 0 (by omega) (by omega) (by omega) (by omega) (by omega) (fun j hj1 hj2 => hb j hj1 (by omega))
  exact ⟨_, L, by omega, he, hh⟩
theorem pairs_l (a : Int) (ha : 1 ≤ a ∧ a ≤ 200) (n : Nat) : ∀ (L : List (List Int)) (d : Int), 1 ≤ d → a < d + n → d ≤ a + 1 → L.length + n ≤ 1000 → (∀ x ∈ L, x.length ≤ 2) →
    ∃ R : List (List Int), Ev (fun k => spec_clPairs.l0 k a L d) R ∧ Ev (fun k => impl_PairsFor.l0 k a L d) (R, true) ∧ R.length ≤ 1000 ∧ (∀ x ∈ R, x.length ≤ 2) := by
  induction n with
  | zero =>
    intro L d h0 h1 h2 h3 hL
    refine ⟨L, Ev.step (f := fun _ => some L) (fun k => ?_) (Ev.now _), Ev.step (f := fun _ => some (L, true)) (fun k => ?_) (Ev.now _), by omega, hL⟩
    · simp only [spec_clPairs.l0]
      rw [if_neg (by omega)]
    · simp only [impl_PairsFor.l0]
      rw [if_neg (by omega)]
  | succ n ih =>
    intro L d h0 h1 h2 h3 hL
    by_cases c : d ≤ a
    · by_cases c2 : Int.tmod (wrap64 (a * a)) d = 0
      · obtain ⟨R, e1, e2, e3, e4⟩ := ih (L ++ [(([wrap64 (a + d), wrap64 (a + (wrap64 (Int.tdiv (wrap64 (a * a)) d)))] : List Int))]) (d + 1) (by omega) (by omega) (by omega) (by simp; omega) (fun x hx => (List.mem_append.1 hx).elim (hL x) (fun h => by rw [List.mem_singleton.1 h]; simp))
        refine ⟨R, Ev.step (fun k => ?_) e1, Ev.step (fun k => ?_) e2, e3, e4⟩
        · simp only [spec_clPairs.l0]
          rw [if_pos c, if_neg (by omega), if_pos c2, if_pos (by omega), wrap_id (x := d + 1) (by omega) (by omega)]
        · simp only [impl_PairsFor.l0]
          rw [if_pos c, if_neg (by omega), if_pos c2, if_pos (by omega), wrap_id (x := d + 1) (by omega) (by omega)]
      · obtain ⟨R, e1, e2, e3, e4⟩ := ih L (d + 1) (by omega) (by omega) (by omega) (by omega) hL
        refine ⟨R, Ev.step (fun k => ?_) e1, Ev.step (fun k => ?_) e2, e3, e4⟩
        · simp only [spec_clPairs.l0]
          rw [if_pos c, if_neg (by omega), if_neg c2, wrap_id (x := d + 1) (by omega) (by omega)]
        · simp only [impl_PairsFor.l0]
          rw [if_pos c, if_neg (by omega), if_neg c2, wrap_id (x := d + 1) (by omega) (by omega)]
    · refine ⟨L, Ev.step (f := fun _ => some L) (fun k => ?_) (Ev.now _), Ev.step (f := fun _ => some (L, true)) (fun k => ?_) (Ev.now _), by omega, hL⟩
      · simp only [spec_clPairs.l0]
        rw [if_neg c]
      · simp only [impl_PairsFor.l0]
        rw [if_neg c]


theorem rows_set (l : List (List Int)) (i j : Int) (v : List Int) (h0 : 0 ≤ i) (h1 : i < l.length) (hj : 0 ≤ j) : rd_L1 (l.set i.toNat v) j = if j = i then v else rd_L1 l j := by
  unfold rd_L1
  rw [List.getD_eq_getElem?_getD, List.getD_eq_getElem?_getD, List.getElem?_set]
  by_cases h : j = i
  · subst h
    rw [if_pos rfl, if_pos rfl, if_pos (by omega)]
    rfl
  · rw [if_neg (by omega), if_neg h]
theorem rows_le (l : List (List Int)) (c : Nat) (h : ∀ x ∈ l, x.length ≤ c) (i : Int) : (rd_L1 l i).length ≤ c := by
  unfold rd_L1
  rw [List.getD_eq_getElem?_getD]
  by_cases e : i.toNat < l.length
  · rw [List.getElem?_eq_getElem e]; exact h _ (List.getElem_mem e)
  · rw [List.getElem?_eq_none (by omega)]; simp
theorem rows_l (c : Nat) (hc : c ≤ 1000000) (n : Nat) : ∀ (l : List (List Int)) (m i : Int), (∀ x ∈ l, x.length ≤ c) → 0 ≤ i → (l.length : Int) - i = n → l.length ≤ 1000000 → 0 ≤ m → m ≤ 100000000000000 - 1000000 * n →
    ∃ (m' : Int) (L : List (List Int)), m ≤ m' ∧ Ev (fun k => MarkSS.l0 k l m i) (m', L) ∧ L.length = l.length ∧ (∀ j, 0 ≤ j → j < i → rd_L1 L j = rd_L1 l j) ∧ Ev (fun k => laws_heldIntSS.l0 k L m i) m' := by
  induction n with
  | zero =>
    intro l m i hl h0 h1 h2 h3 h4
    refine ⟨m, l, Int.le_refl _, Ev.step (f := fun _ => some (m, l)) (fun k => ?_) (Ev.now _), rfl, fun _ _ _ => rfl, Ev.step (f := fun _ => some m) (fun k => ?_) (Ev.now _)⟩
    · simp only [MarkSS.l0]
      rw [if_neg (by omega)]
    · simp only [laws_heldIntSS.l0]
      rw [if_neg (by omega)]
  | succ n ih =>
    intro l m i hl h0 h1 h2 h3 h4
    have hlt : i < (l.length : Int) := by omega
    have hx := rows_le l c hl i
    obtain ⟨X, ⟨K1, he⟩, hXl, -, hb⟩ := markIntS_l (rd_L1 l i).length (rd_L1 l i) m 0 (by omega) (by omega) (by omega) h3 (by omega)
    obtain ⟨K2, hh⟩ := heldIntS_l X.length X m 0 (by omega) (by omega) (by omega) h3 (by omega) (fun j hj1 hj2 => hb j hj1 (by omega))
    have hset : ∀ x ∈ l.set i.toNat X, x.length ≤ c := fun x hx2 => by
      rcases List.mem_or_eq_of_mem_set hx2 with h | h
      · exact hl x h
      · rw [h, hXl]; exact hx
    obtain ⟨m', L, hm, hE, hL, hlow, hH⟩ := ih (l.set i.toNat X) (m + 1 * ((rd_L1 l i).length : Int)) (i + 1) hset (by omega) (by rw [List.length_set]; omega) (by rw [List.length_set]; exact h2) (by omega) (by omega)
    rw [List.length_set] at hL
    have hLi : rd_L1 L i = X := by rw [hlow i h0 (by omega), rows_set l i i X h0 hlt h0, if_pos rfl]
    refine ⟨m', L, by omega, stepK K1 (f := fun k => MarkSS.l0 k (l.set i.toNat X) (m + 1 * ((rd_L1 l i).length : Int)) (i + 1)) (fun k hk => ?_) hE, hL, fun j hj1 hj2 => ?_, stepK K2 (f := fun k => laws_heldIntSS.l0 k L (m + 1 * ((rd_L1 l i).length : Int)) (i + 1)) (fun k hk => ?_) hH⟩
    · simp only [MarkSS.l0]
      rw [if_pos hlt, if_pos h0]
      have e : laws_markIntS.f k (l.getD i.toNat []) m = some (m + 1 * ((rd_L1 l i).length : Int), X) := he k hk
      rw [bind_eq e, wrap_id (x := i + 1) (by omega) (by omega)]
    · rw [hlow j hj1 (by omega), rows_set l i j X h0 hlt hj1, if_neg (by omega)]
    · simp only [laws_heldIntSS.l0]
      rw [if_pos (by omega), if_pos h0, hLi]
      have e : laws_heldIntS.f k X m = some (m + 1 * (X.length : Int)) := hh k hk
      rw [bind_eq e, if_neg (by omega), wrap_id (x := i + 1) (by omega) (by omega), hXl]
theorem rows_ev (l : List (List Int)) (c : Nat) (hl : ∀ x ∈ l, x.length ≤ c) (hc : c ≤ 1000000) (h : l.length ≤ 1000000) :
    ∃ (m : Int) (L : List (List Int)), 0 ≤ m ∧ Ev (fun k => MarkSS.l0 k l 1 0) (m, L) ∧ Ev (fun k => laws_heldIntSS.f k L 1) m := by
  obtain ⟨m, L, hm, hE, _, _, hH⟩ := rows_l c hc l.length l 1 0 hl (by omega) (by omega) h (by omega) (by omega)
  exact ⟨m, L, by omega, hE, hH⟩
theorem eqrows_l (c : Nat) (hc : c ≤ 1000000) (n : Nat) : ∀ (l : List (List Int)) (i : Int), (∀ x ∈ l, x.length ≤ c) → 0 ≤ i → (l.length : Int) - i = n → l.length ≤ 1000000 → Ev (fun k => laws_eqIntSS.l0 k l l i) true := by
  induction n with
  | zero =>
    intro l i hl h0 h1 h2
    refine Ev.step (f := fun _ => some true) (fun k => ?_) (Ev.now _)
    simp only [laws_eqIntSS.l0]
    rw [if_neg (by omega)]
  | succ n ih =>
    intro l i hl h0 h1 h2
    have hx := rows_le l c hl i
    obtain ⟨K, hK⟩ := eqIntS_ev (rd_L1 l i) (by omega)
    refine stepK K (f := fun k => laws_eqIntSS.l0 k l l (i + 1)) (fun k hk => ?_) (ih l (i + 1) hl (by omega) (by omega) h2)
    simp only [laws_eqIntSS.l0]
    rw [if_pos (by omega), if_pos h0, if_pos (by omega), bind_eq (hK k hk), if_pos rfl, wrap_id (x := i + 1) (by omega) (by omega)]
theorem eqrows_ev (l : List (List Int)) (c : Nat) (hl : ∀ x ∈ l, x.length ≤ c) (hc : c ≤ 1000000) (h : l.length ≤ 1000000) : Ev (fun k => laws_eqIntSS.f k l l) true := by
  refine congrK 0 (f := fun k => laws_eqIntSS.l0 k l l 0) (fun k _ => ?_) (eqrows_l c hc l.length l 0 hl (by omega) (by omega) h)
  unfold laws_eqIntSS.f
  rw [if_pos rfl]


end FnExactPairsForL
open FnExactPairsForL

theorem FnExactPairsFor (a : Int) (W : World) : Calls Try.prog 13 #[.int .i64 a] W fun en w' => en = .returned (.bool true) ∧ Below W.heap.size W w' := by
  have key : ∃ (R : List (List Int)) (o : Bool), R.length ≤ 1000 ∧ (∀ x ∈ R, x.length ≤ 2) ∧ Ev (fun k => spec_PairsFor.f k a) (R, o) ∧ Ev (fun k => impl_PairsFor.f k a) (R, o) := by
    by_cases h : 1 ≤ a ∧ a ≤ 200
    · obtain ⟨R, e1, e2, e3, e4⟩ := pairs_l a h 201 [] 1 (by omega) (by omega) (by omega) (by simp) (by simp)
      refine ⟨R, true, e3, e4, congrK 0 (f := fun k => (spec_clPairs.l0 k a [] 1).bind fun t => some (t, true)) (fun k _ => ?_) ?_, congrK 0 (f := fun k => impl_PairsFor.l0 k a [] 1) (fun k _ => ?_) e2⟩
      · simp only [spec_PairsFor.f, in_eq, Option.bind_some, spec_clPairs.f]
        rw [if_pos (decide_eq_true h)]
      · obtain ⟨K, hK⟩ := e1
        exact ⟨K, fun k hk => by simp only []; rw [show spec_clPairs.l0 k a [] 1 = some R from hK k hk]; rfl⟩
      · simp only [impl_PairsFor.f, within_eq, Option.bind_some]
        rw [if_pos (decide_eq_true h)]
    · refine ⟨[], false, by simp, by simp, ⟨0, fun k _ => ?_⟩, ⟨0, fun k _ => ?_⟩⟩
      · simp only [spec_PairsFor.f, in_eq, Option.bind_some]
        rw [if_neg (by simpa using h)]
      · simp only [impl_PairsFor.f, within_eq, Option.bind_some]
        rw [if_neg (by simpa using h)]
  obtain ⟨R, o, h1, h2, ⟨K1, e1⟩, ⟨K2, e2⟩⟩ := key
  obtain ⟨m, R', hm0, ⟨K3, e3⟩, ⟨K4, e4⟩⟩ := rows_ev R 2 h2 (by omega) (by omega)
  obtain ⟨K5, e5⟩ := eqrows_ev R 2 h2 (by omega) (by omega)
  exact Pairs.law_walk (K1 + K2 + K3 + K4 + K5) a m o R R' W (e1 _ (by omega)) (e2 _ (by omega)) (e5 _ (by omega)) (e3 _ (by omega)) (e4 _ (by omega)) hm0

end Go.Proofs.Ytheeghlfckhdeaa.Pure
