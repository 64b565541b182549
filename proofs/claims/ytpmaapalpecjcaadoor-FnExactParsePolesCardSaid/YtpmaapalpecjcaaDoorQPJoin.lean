/- The plain law and the walk of FnExactParsePoles joined: whatever the string, the law returns true. Condition: the library's variables (Ready). -/
import Derived.Test.YtpmaapalpecjcaaDoorQP5
import Derived.Test.YtpmaapalpecjcaaDoorQPCore
namespace Go.Proofs.YtpmaapalpecjcaaDoor.QPJoin
open Go.RowKit Go.Proofs.YtpmaapalpecjcaaDoor.PFnExactParsePoles Go.Proofs.YtpmaapalpecjcaaDoorW.PrintWords Go.Proofs.YtpmaapalpecjcaaDoor.QPCore Go.Proofs.YtpmaapalpecjcaaDoor.Given
set_option linter.unusedVariables false
set_option linter.unusedSimpArgs false

theorem stepK {α : Type} {g f : Nat → Option α} {r : α} (K0 : Nat) (h : ∀ k, K0 ≤ k → g (k + 1) = f k) (hf : Ev f r) : Ev g r := by
  obtain ⟨K, hK⟩ := hf
  refine ⟨K + K0 + 1, fun k hk => ?_⟩
  obtain ⟨k, rfl⟩ : ∃ m, k = m + 1 := ⟨k - 1, by omega⟩
  rw [h k (by omega), hK k (by omega)]
theorem congrK {α : Type} {g f : Nat → Option α} {r : α} (K0 : Nat) (h : ∀ k, K0 ≤ k → g k = f k) (hf : Ev f r) : Ev g r := by
  obtain ⟨K, hK⟩ := hf
  exact ⟨K + K0, fun k hk => by rw [h k (by omega), hK k (by omega)]⟩


theorem pole_spec (a b : Int) : spec_swPole.f a b = some (decide ((1 ≤ a ∧ a ≤ 500) ∧ (1 ≤ b ∧ b ≤ 200))) := by
  simp only [spec_swPole.f, in_eq, Option.bind_some, decide_eq_true_eq]
  by_cases h : 1 ≤ a ∧ a ≤ 500 <;> simp [h]

theorem pole_impl (a b : Int) : impl_isPole.f a b = some (decide ((1 ≤ a ∧ a ≤ 500) ∧ (1 ≤ b ∧ b ≤ 200))) := by
  simp only [impl_isPole.f, impl_isPlace.f, impl_isHigh.f, within_eq, Option.bind_some, decide_eq_true_eq]
  by_cases h : 1 ≤ a ∧ a ≤ 500 <;> simp [h]


/-- What both sides take for a pole at its place. -/
def OkRow (l : List S49) (j : Int) : Prop := ((1 ≤ (rd_T49 l j).f0 ∧ (rd_T49 l j).f0 ≤ 500) ∧ (1 ≤ (rd_T49 l j).f1 ∧ (rd_T49 l j).f1 ≤ 200)) ∧ (0 < j → (rd_T49 l (j - 1)).f0 < (rd_T49 l j).f0)
theorem row_l (n : Nat) : ∀ (l : List S49) (i : Int), 0 ≤ i → (l.length : Int) - i = n → l.length ≤ 1000000000 → ∃ b : Bool, Ev (fun k => spec_swRow.l0 k l l (l.length : Int) i) b ∧ (b = true ↔ ∀ j, i ≤ j → j < l.length → OkRow l j) := by
  induction n with
  | zero =>
    intro l i h0 h1 h2
    refine ⟨true, Ev.step (f := fun _ => some true) (fun k => ?_) (Ev.now _), by simp; intro j _ _; omega⟩
    simp only [spec_swRow.l0]
    rw [if_neg (by omega)]
  | succ n ih =>
    intro l i h0 h1 h2
    obtain ⟨b, hb, hi⟩ := ih l (i + 1) (by omega) (by omega) h2
    have hlt : i < (l.length : Int) := by omega
    by_cases c : (1 ≤ (rd_T49 l i).f0 ∧ (rd_T49 l i).f0 ≤ 500) ∧ (1 ≤ (rd_T49 l i).f1 ∧ (rd_T49 l i).f1 ≤ 200)
    · by_cases c2 : 0 < i ∧ (rd_T49 l i).f0 ≤ (rd_T49 l (i - 1)).f0
      · refine ⟨false, Ev.step (f := fun _ => some false) (fun k => ?_) (Ev.now _), ?_⟩
        · simp only [spec_swRow.l0, pole_spec, Option.bind_some, decide_eq_true_eq]
          rw [if_pos hlt, if_pos h0, if_pos hlt, if_pos c, if_pos c2.1, wrap_id (x := i - 1) (by omega) (by omega), if_pos (by omega), if_pos (by omega), if_pos c2.2]
        · simp only [Bool.false_eq_true, false_iff]
          intro H
          have := (H i (by omega) hlt).2 c2.1
          omega
      · refine ⟨b, Ev.step (fun k => ?_) hb, ?_⟩
        · simp only [spec_swRow.l0, pole_spec, Option.bind_some, decide_eq_true_eq]
          rw [if_pos hlt, if_pos h0, if_pos hlt, if_pos c, wrap_id (x := i + 1) (by omega) (by omega)]
          by_cases c3 : i > 0
          · rw [if_pos c3, wrap_id (x := i - 1) (by omega) (by omega), if_pos (by omega), if_pos (by omega), if_neg (fun h => c2 ⟨c3, h⟩)]
          · rw [if_neg c3]
        · rw [hi]
          constructor
          · intro H j h3 h4
            by_cases e : j = i
            · subst e
              exact ⟨c, fun hp => by omega⟩
            · exact H j (by omega) h4
          · intro H j h3 h4
            exact H j (by omega) h4
    · refine ⟨false, Ev.step (f := fun _ => some false) (fun k => ?_) (Ev.now _), ?_⟩
      · simp only [spec_swRow.l0, pole_spec, Option.bind_some, decide_eq_true_eq]
        rw [if_pos hlt, if_pos h0, if_pos hlt, if_neg c]
      · simp only [Bool.false_eq_true, false_iff]
        intro H
        exact c (H i (by omega) hlt).1


theorem any_l (n : Nat) : ∀ (l : List S49) (i : Int), 0 ≤ i → (l.length : Int) - i = n → l.length ≤ 1000000000 →
    ∃ b : Bool, Ev (fun k => impl_areAnyPoles.l0 k l l (l.length : Int) i) b ∧ (b = true ↔ (∀ j, i ≤ j → j < l.length → OkRow l j) ∧ (1 ≤ (l.length : Int) ∧ (l.length : Int) ≤ 6)) := by
  induction n with
  | zero =>
    intro l i h0 h1 h2
    refine ⟨decide (1 ≤ (l.length : Int) ∧ (l.length : Int) ≤ 6), Ev.step (f := fun _ => some (decide (1 ≤ (l.length : Int) ∧ (l.length : Int) ≤ 6))) (fun k => ?_) (Ev.now _), ?_⟩
    · simp only [impl_areAnyPoles.l0, within_eq, Option.bind_some]
      rw [if_neg (by omega)]
    · rw [decide_eq_true_eq]
      exact ⟨fun h => ⟨fun j _ _ => by omega, h⟩, fun h => h.2⟩
  | succ n ih =>
    intro l i h0 h1 h2
    obtain ⟨b, hb, hi⟩ := ih l (i + 1) (by omega) (by omega) h2
    have hlt : i < (l.length : Int) := by omega
    by_cases c : (1 ≤ (rd_T49 l i).f0 ∧ (rd_T49 l i).f0 ≤ 500) ∧ (1 ≤ (rd_T49 l i).f1 ∧ (rd_T49 l i).f1 ≤ 200)
    · by_cases c2 : 0 < i ∧ (rd_T49 l i).f0 ≤ (rd_T49 l (i - 1)).f0
      · refine ⟨false, Ev.step (f := fun _ => some false) (fun k => ?_) (Ev.now _), ?_⟩
        · simp only [impl_areAnyPoles.l0, pole_impl, Option.bind_some, decide_eq_true_eq]
          rw [if_pos hlt, if_pos h0, if_pos hlt, if_pos c, if_pos c2.1, wrap_id (x := i - 1) (by omega) (by omega), if_pos (by omega), if_pos (by omega), if_pos (show (rd_T49 l (i - 1)).f0 ≥ (rd_T49 l i).f0 from c2.2)]
        · simp only [Bool.false_eq_true, false_iff]
          intro H
          have := (H.1 i (by omega) hlt).2 c2.1
          omega
      · refine ⟨b, Ev.step (fun k => ?_) hb, ?_⟩
        · simp only [impl_areAnyPoles.l0, pole_impl, Option.bind_some, decide_eq_true_eq]
          rw [if_pos hlt, if_pos h0, if_pos hlt, if_pos c, wrap_id (x := i + 1) (by omega) (by omega)]
          by_cases c3 : i > 0
          · rw [if_pos c3, wrap_id (x := i - 1) (by omega) (by omega), if_pos (by omega), if_pos (by omega), if_neg (fun h => c2 ⟨c3, h⟩)]
          · rw [if_neg c3]
        · rw [hi]
          constructor
          · intro H
            refine ⟨fun j h3 h4 => ?_, H.2⟩
            by_cases e : j = i
            · subst e
              exact ⟨c, fun hp => by omega⟩
            · exact H.1 j (by omega) h4
          · intro H
            exact ⟨fun j h3 h4 => H.1 j (by omega) h4, H.2⟩
    · refine ⟨false, Ev.step (f := fun _ => some false) (fun k => ?_) (Ev.now _), ?_⟩
      · simp only [impl_areAnyPoles.l0, pole_impl, Option.bind_some, decide_eq_true_eq]
        rw [if_pos hlt, if_pos h0, if_pos hlt, if_neg c]
      · simp only [Bool.false_eq_true, false_iff]
        intro H
        exact c (H.1 i (by omega) hlt).1
def RowOk (l : List S49) : Prop := (1 ≤ (l.length : Int) ∧ (l.length : Int) ≤ 6) ∧ ∀ j : Int, 0 ≤ j → j < l.length → OkRow l j
/-- Both sides tell alike whether there are poles of some lamp. -/
theorem row_ev (l : List S49) (h : l.length ≤ 1000000000) : ∃ b : Bool, Ev (fun k => spec_swRow.f k l) b ∧ Ev (fun k => impl_areAnyPoles.f k l) b ∧ (b = true ↔ RowOk l) := by
  obtain ⟨b1, e1, i1⟩ := any_l l.length l 0 (by omega) (by omega) h
  obtain ⟨b2, e2, i2⟩ := row_l l.length l 0 (by omega) (by omega) h
  have i1' : b1 = true ↔ RowOk l := by
    rw [i1]
    exact ⟨fun H => ⟨H.2, fun j hj hj2 => H.1 j hj hj2⟩, fun H => ⟨fun j hj hj2 => H.2 j hj hj2, H.1⟩⟩
  refine ⟨b1, ?_, e1, i1'⟩
  by_cases c2 : 1 ≤ (l.length : Int) ∧ (l.length : Int) ≤ 6
  · have eb : b2 = b1 := by
      rw [Bool.eq_iff_iff, i2, i1]
      exact ⟨fun H => ⟨H, c2⟩, fun H => H.1⟩
    rw [eb] at e2
    refine congrK 0 (fun k _ => ?_) e2
    simp only [spec_swRow.f, in_eq, Option.bind_some, decide_eq_true_eq]
    rw [if_pos c2]
  · have eb : b1 = false := by
      rw [← Bool.not_eq_true, i1]
      exact fun H => c2 H.2
    rw [eb]
    refine ⟨0, fun k _ => ?_⟩
    simp only [spec_swRow.f, in_eq, Option.bind_some, decide_eq_true_eq]
    rw [if_neg c2]
theorem row_range (l : List S49) (h : RowOk l) : ∀ p ∈ l, (1 ≤ p.f0 ∧ p.f0 ≤ 500) ∧ (1 ≤ p.f1 ∧ p.f1 ≤ 200) := fun p hp => by
  obtain ⟨j, hj, e⟩ := List.getElem_of_mem hp
  have := (h.2 (j : Int) (by omega) (by omega)).1
  have e2 : rd_T49 l (j : Int) = p := by
    unfold rd_T49
    rw [List.getD_eq_getElem?_getD, Int.toNat_natCast, List.getElem?_eq_getElem hj, e]
    rfl
  rw [e2] at this
  exact this

theorem eqPoleS_l (n : Nat) : ∀ (l : List S49) (i : Int), 0 ≤ i → (l.length : Int) - i = n → l.length ≤ 1000000000000 → Ev (fun k => laws_eqPoleS.l0 k l l i) true := by
  induction n with
  | zero =>
    intro l i h0 h1 h2
    refine Ev.step (f := fun _ => some true) (fun k => ?_) (Ev.now true)
    simp only [laws_eqPoleS.l0]
    rw [if_neg (by omega)]
  | succ n ih =>
    intro l i h0 h1 h2
    refine Ev.step (f := fun k => laws_eqPoleS.l0 k l l (i + 1)) (fun k => ?_) (ih l (i + 1) (by omega) (by omega) h2)
    simp only [laws_eqPoleS.l0, laws_eqPole.f]
    rw [if_pos (show i < (l.length : Int) by omega), if_pos h0, wrap_id (x := i + 1) (by omega) (by omega)]
    simp
    try omega

theorem eqPoleS_ev (l : List S49) (h : l.length ≤ 1000000000000) : Ev (fun k => laws_eqPoleS.f k l l) true := by
  refine Ev.congr (f := fun k => laws_eqPoleS.l0 k l l 0) (fun k => ?_) (eqPoleS_l l.length l 0 (by omega) (by omega) h)
  unfold laws_eqPoleS.f
  rw [if_pos rfl]

theorem rd_T49_set (l : List S49) (i j : Int) (v : S49) (h0 : 0 ≤ i) (h1 : i < l.length) (hj : 0 ≤ j) : rd_T49 (l.set i.toNat v) j = if j = i then v else rd_T49 l j := by
  unfold rd_T49
  rw [List.getD_eq_getElem?_getD, List.getD_eq_getElem?_getD, List.getElem?_set]
  by_cases h : j = i
  · subst h
    rw [if_pos rfl, if_pos rfl, if_pos (by omega)]
    rfl
  · rw [if_neg (by omega), if_neg h]

theorem markPoleS_l (n : Nat) : ∀ (l : List S49) (m i : Int), 0 ≤ i → (l.length : Int) - i = n → l.length ≤ 1000000000000 → 0 ≤ m → m ≤ 1000000000000000 - 2 * n →
    ∃ L : List S49, Ev (fun k => laws_markPoleS.l0 k l m i) (m + 2 * n, L) ∧ L.length = l.length ∧ (∀ j, 0 ≤ j → j < i → rd_T49 L j = rd_T49 l j) ∧ ∀ j, i ≤ j → j < l.length → (rd_T49 L j).f0 = m + 2 * (j - i) + 0 ∧ (rd_T49 L j).f1 = m + 2 * (j - i) + 1 := by
  induction n with
  | zero =>
    intro l m i h0 h1 h2 h3 h4
    refine ⟨l, Ev.step (f := fun _ => some (m, l)) (fun k => ?_) ?_, rfl, fun _ _ _ => rfl, fun j ha hb => by omega⟩
    · simp only [laws_markPoleS.l0]
      rw [if_neg (by omega)]
    · have e : m + 2 * ((0 : Nat) : Int) = m := by omega
      rw [e]; exact Ev.now _
  | succ n ih =>
    intro l m i h0 h1 h2 h3 h4
    have hlt : i < (l.length : Int) := by omega
    obtain ⟨L, he, hl, ha, hb⟩ := ih (l.set i.toNat (⟨m, m + 1⟩ : S49)) (m + 2) (i + 1) (by omega) (by rw [List.length_set]; omega) (by rw [List.length_set]; exact h2) (by omega) (by omega)
    rw [List.length_set] at hl hb
    refine ⟨L, ?_, hl, fun j hj1 hj2 => ?_, fun j hj1 hj2 => ?_⟩
    · rw [show m + 2 * ((n + 1 : Nat) : Int) = m + 2 + 2 * (n : Int) by omega]
      refine Ev.step (f := fun k => laws_markPoleS.l0 k (l.set i.toNat (⟨m, m + 1⟩ : S49)) (m + 2) (i + 1)) (fun k => ?_) he
      simp only [laws_markPoleS.l0, Option.bind_some]
      rw [if_pos hlt, if_pos h0]
      rw [wrap_id (x := m + 1) (by omega) (by omega), wrap_id (x := m + 1 + 1) (by omega) (by omega), wrap_id (x := i + 1) (by omega) (by omega)]
      have e1 := rd_T49_set l i i (⟨m, (rd_T49 l i).f1⟩ : S49) h0 hlt h0
      rw [if_pos rfl] at e1
      rw [e1, show m + 1 + 1 = m + 2 by omega]
      simp only [List.set_set]
    · rw [ha j hj1 (by omega), rd_T49_set l i j _ h0 hlt hj1, if_neg (by omega)]
    · by_cases e : j = i
      · subst e
        rw [ha j h0 (by omega), rd_T49_set l j j _ h0 hlt h0, if_pos rfl]
        simp
        try omega
      · have := hb j (by omega) hj2
        omega

theorem heldPoleS_l (n : Nat) : ∀ (l : List S49) (m i : Int), 0 ≤ i → (l.length : Int) - i = n → l.length ≤ 1000000000000 → 0 ≤ m → m ≤ 1000000000000000 - 2 * n →
    (∀ j, i ≤ j → j < l.length → (rd_T49 l j).f0 = m + 2 * (j - i) + 0 ∧ (rd_T49 l j).f1 = m + 2 * (j - i) + 1) → Ev (fun k => laws_heldPoleS.l0 k l m i) (m + 2 * n) := by
  induction n with
  | zero =>
    intro l m i h0 h1 h2 h3 h4 h5
    refine Ev.step (f := fun _ => some m) (fun k => ?_) ?_
    · simp only [laws_heldPoleS.l0]
      rw [if_neg (by omega)]
    · have e : m + 2 * ((0 : Nat) : Int) = m := by omega
      rw [e]; exact Ev.now _
  | succ n ih =>
    intro l m i h0 h1 h2 h3 h4 h5
    have hlt : i < (l.length : Int) := by omega
    have hi := h5 i (by omega) hlt
    rw [show m + 2 * ((n + 1 : Nat) : Int) = m + 2 + 2 * (n : Int) by omega]
    refine Ev.step (f := fun k => laws_heldPoleS.l0 k l (m + 2) (i + 1)) (fun k => ?_) (ih l (m + 2) (i + 1) (by omega) (by omega) h2 (by omega) (by omega) (fun j hj1 hj2 => by have := h5 j (by omega) hj2; omega))
    simp only [laws_heldPoleS.l0]
    rw [if_pos hlt, if_pos h0]
    rw [if_pos (by omega), wrap_id (x := m + 1) (by omega) (by omega), if_pos (by omega), wrap_id (x := m + 1 + 1) (by omega) (by omega), wrap_id (x := i + 1) (by omega) (by omega), show m + 1 + 1 = m + 2 by omega]

/-- What is marked is held, as often as it is asked. -/
theorem markPoleS_ev (l : List S49) (h : l.length ≤ 1000000000) :
    ∃ (m : Int) (L : List S49), 0 ≤ m ∧ Ev (fun k => laws_markPoleS.f k l 1) (m, L) ∧ Ev (fun k => laws_heldPoleS.f k L 1) m := by
  obtain ⟨L, he, hl, _, hb⟩ := markPoleS_l l.length l 1 0 (by omega) (by omega) (by omega) (by omega) (by omega)
  have hh := heldPoleS_l l.length L 1 0 (by omega) (by omega) (by omega) (by omega) (by omega) (fun j hj1 hj2 => hb j hj1 (by omega))
  exact ⟨_, L, by omega, he, hh⟩
/-- The text of a pole, as a list. -/
def D (m n : Nat) : List UInt8 := Lib.decDigits m ++ 124 :: Lib.decDigits n
theorem not_dec (c : UInt8) (h : ¬ Dig.isD c) (n : Nat) : c ∉ Lib.decDigits n := fun hc => h (Dig.dec_digits n c hc)
theorem n124 : ¬ Dig.isD 124 := fun h => absurd h.2 (by decide)
theorem chop_D (m n : Nat) : Dig.chop 124 [] (D m n) = [Lib.decDigits m, Lib.decDigits n] := by
  unfold D
  rw [Dig.chop_app 124 _ _ [] (not_dec 124 n124 m), Dig.chop_no 124 _ [] (not_dec 124 n124 n)]
  simp
def bs (l : List UInt8) : ByteArray := ⟨l.toArray⟩
theorem bs_list (l : List UInt8) : (bs l).data.toList = l := by unfold bs; simp
theorem num_dec (n : Nat) (h : n < 1000000) (s : ByteArray) (e : s.data.toList = Lib.decDigits n) : Num.num s = ((n : Int), true) := by
  unfold Num.num
  rw [e, Dig.atoi_dec n (by omega)]
  simp only []
  rw [Dig.itoa_dec, toList_eq, toList_eq, e]
  have : (⟨(Lib.decDigits n).toArray⟩ : ByteArray).data.toList = Lib.decDigits n := by simp
  rw [this, beq_self_eq_true]
theorem num_true (s : ByteArray) (h : (Num.num s).2 = true) : s.data.toList = Lib.itoa (Num.num s).1 := by
  unfold Num.num at h ⊢
  rcases ha : Lib.atoiAll s.data.toList with v | _ | _
  · rw [ha] at h
    simp only [] at h ⊢
    have := beq_iff_eq.1 h
    rw [toList_eq, toList_eq] at this
    rw [← this]
  · rw [ha] at h; cases h
  · rw [ha] at h; cases h
theorem num_nil (s : ByteArray) (h : s.data.toList = []) : (Num.num s).2 = false := by
  unfold Num.num
  rw [h]
  rfl
theorem itoa_nat (v : Int) (h : 0 ≤ v) : Lib.itoa v = Lib.decDigits v.toNat := by
  obtain ⟨n, rfl⟩ : ∃ n : Nat, v = n := ⟨v.toNat, by omega⟩
  rw [Dig.itoa_dec, Int.toNat_natCast]
theorem two_of {R : List ByteArray} (h : R.length = 2) : ∃ p q, R = [p, q] := by
  match R, h with
  | [p, q], _ => exact ⟨p, q, rfl⟩
/-- What a side tells of a piece, and of which pieces it tells a pole. -/
def Piece (x : ByteArray) (o : Option (Int × Int)) : Prop := (∀ a b : Int, o = some (a, b) → 0 ≤ a → 0 ≤ b → x.data.toList = D a.toNat b.toNat) ∧ (∀ m n : Nat, m < 1000000 → n < 1000000 → x.data.toList = D m n → o = some ((m : Int), (n : Int)))
def SPiece (x : ByteArray) (o : Option (Int × Int)) : Prop := ∃ R : List ByteArray, (∀ k, 1048576 < k → spec_l1Split.f k x 124 = some R) ∧ ((o = none ∧ R.length ≠ 2) ∨ ∃ u v a b, R = [u, v] ∧ (∀ k, 10 ≤ k → spec_l1Read.f k u = some a) ∧ (∀ k, 10 ≤ k → spec_l1Read.f k v = some b) ∧ o = some (a, b)) ∧ Piece x o
theorem spiece (x : ByteArray) : ∃ o, x.size ≤ 1048576 → SPiece x o := by
  by_cases hx : x.size ≤ 1048576
  · obtain ⟨R, hR, _, hf⟩ := split_ev x 124 hx
    by_cases h2 : R.length = 2
    · obtain ⟨u, v, rfl⟩ := two_of h2
      simp only [List.map_cons, List.map_nil] at hR
      obtain ⟨a, ha, ha0, ha1, ha2, ha3⟩ := read_ev u
      obtain ⟨b, hb, hb0, hb1, hb2, hb3⟩ := read_ev v
      refine ⟨some (a, b), fun _ => ⟨[u, v], hf, .inr ⟨u, v, a, b, rfl, ha, hb, rfl⟩, fun a' b' e h3 h4 => ?_, fun m n hm hn e => ?_⟩⟩
      · simp only [Option.some.injEq, Prod.mk.injEq] at e
        obtain ⟨rfl, rfl⟩ := e
        have e1 := ha3 h3
        have e2 := hb3 h4
        rcases Dig.parts 124 x.data.toList with hno | ⟨p, r, hp, e⟩
        · rw [Dig.chop_no 124 _ [] hno] at hR
          simp at hR
        · rw [e, Dig.chop_app 124 p r [] hp] at hR
          rcases Dig.parts 124 r with hno2 | ⟨p2, r2, hp2, e3⟩
          · rw [Dig.chop_no 124 _ [] hno2] at hR
            simp only [List.nil_append, List.cons.injEq, and_true] at hR
            rw [e]
            unfold D
            rw [← hR.1, ← hR.2, e1, e2]
          · rw [e3, Dig.chop_app 124 p2 r2 [] hp2] at hR
            obtain ⟨h5, t5, e5, _⟩ := Dig.chop_acc 124 r2 []
            rw [e5] at hR
            simp at hR
      · rw [e, chop_D] at hR
        simp only [List.cons.injEq, and_true] at hR
        rw [ha2 m hm hR.1, hb2 n hn hR.2]
    · refine ⟨none, fun _ => ⟨R, hf, .inl ⟨rfl, h2⟩, (fun a b e => by cases e), fun m n hm hn e => ?_⟩⟩
      exfalso
      rw [e, chop_D] at hR
      have := congrArg List.length hR
      simp at this
      exact h2 this
  · exact ⟨none, fun h => absurd h hx⟩
/-- What the program tells of a piece. -/
def ip (x : ByteArray) : Option (Int × Int) := if (Num.num (bs (Lib.cut x.data.toList [124]).1)).2 = true then (if (Num.num (bs (Lib.cut x.data.toList [124]).2.1)).2 = true then some ((Num.num (bs (Lib.cut x.data.toList [124]).1)).1, (Num.num (bs (Lib.cut x.data.toList [124]).2.1)).1) else none) else none
theorem ipiece (x : ByteArray) : Piece x (ip x) := by
  refine ⟨fun a b e h3 h4 => ?_, fun m n hm hn e => ?_⟩
  · unfold ip at e
    by_cases o1 : (Num.num (bs (Lib.cut x.data.toList [124]).1)).2 = true
    · by_cases o2 : (Num.num (bs (Lib.cut x.data.toList [124]).2.1)).2 = true
      · rw [if_pos o1, if_pos o2] at e
        simp only [Option.some.injEq, Prod.mk.injEq] at e
        obtain ⟨e1, e2⟩ := e
        have f1 := num_true _ o1
        have f2 := num_true _ o2
        rw [e1, itoa_nat a h3, bs_list] at f1
        rw [e2, itoa_nat b h4, bs_list] at f2
        rcases Dig.parts 124 x.data.toList with hno | ⟨p, r, hp, e⟩
        · rw [Dig.cut_no 124 _ hno] at o2
          rw [num_nil _ (bs_list [])] at o2
          cases o2
        · rw [e, Dig.cut_app 124 p r hp] at f1 f2
          simp only [] at f1 f2
          rw [e]
          unfold D
          rw [← f1, ← f2]
      · rw [if_pos o1, if_neg o2] at e; cases e
    · rw [if_neg o1] at e; cases e
  · unfold ip
    rw [e]
    unfold D
    rw [Dig.cut_app 124 _ _ (not_dec 124 n124 m)]
    simp only []
    rw [num_dec m hm (bs (Lib.decDigits m)) (bs_list _), num_dec n hn (bs (Lib.decDigits n)) (bs_list _), if_pos rfl, if_pos rfl]
/-- The poles of all pieces, if a side tells each. -/
def run (f : ByteArray → Option (Int × Int)) : List ByteArray → List S49 → Option (List S49)
  | [], L => some L
  | x :: r, L => match f x with
    | none => none
    | some p => run f r (L ++ [⟨p.1, p.2⟩])
theorem run_pre (f : ByteArray → Option (Int × Int)) (xs : List ByteArray) : ∀ L L', run f xs L = some L' → ∃ t, L' = L ++ t ∧ t.length = xs.length := by
  induction xs with
  | nil => intro L L' h; simp only [run, Option.some.injEq] at h; exact ⟨[], by simp [h], rfl⟩
  | cons x r ih =>
    intro L L' h
    simp only [run] at h
    cases hf : f x with
    | none => rw [hf] at h; cases h
    | some p =>
      rw [hf] at h
      obtain ⟨t, e, hl⟩ := ih _ _ h
      exact ⟨⟨p.1, p.2⟩ :: t, by rw [e]; simp, by simp [hl]⟩
theorem run_agree {f g : ByteArray → Option (Int × Int)} (xs : List ByteArray) : ∀ L L', (∀ x ∈ xs, Piece x (f x) ∧ Piece x (g x)) → run f xs L = some L' → (∀ p ∈ L', (1 ≤ p.f0 ∧ p.f0 ≤ 500) ∧ (1 ≤ p.f1 ∧ p.f1 ≤ 200)) → run g xs L = some L' ∧ ∀ x ∈ xs, x.size ≤ 7 := by
  induction xs with
  | nil => intro L L' _ h _; exact ⟨h, by simp⟩
  | cons x r ih =>
    intro L L' hP h hr
    simp only [run] at h ⊢
    cases hf : f x with
    | none => rw [hf] at h; cases h
    | some p =>
      rw [hf] at h
      simp only [] at h
      obtain ⟨t, e, _⟩ := run_pre f r _ _ h
      have hp := hr ⟨p.1, p.2⟩ (by rw [e]; simp)
      simp only [] at hp
      have hD := (hP x (by simp)).1.1 p.1 p.2 hf (by omega) (by omega)
      have hg := (hP x (by simp)).2.2 p.1.toNat p.2.toNat (by omega) (by omega) hD
      obtain ⟨i1, i2⟩ := ih _ _ (fun y hy => hP y (List.mem_cons_of_mem _ hy)) h hr
      have e1 : ((p.1.toNat : Nat) : Int) = p.1 := by omega
      have e2 : ((p.2.toNat : Nat) : Int) = p.2 := by omega
      rw [hg]
      simp only [e1, e2]
      refine ⟨i1, fun y hy => ?_⟩
      rcases List.mem_cons.1 hy with h1 | h1
      · rw [h1, size_len, hD]
        unfold D
        have l1 : (Lib.decDigits p.1.toNat).length ≤ 3 := by
          rw [Lib.decDigits_length]
          exact Dec.nDigits_le _ 2 (by have : (10 : Nat) ^ (2 + 1) = 1000 := by decide
                                       omega)
        have l2 : (Lib.decDigits p.2.toNat).length ≤ 3 := by
          rw [Lib.decDigits_length]
          exact Dec.nDigits_le _ 2 (by have : (10 : Nat) ^ (2 + 1) = 1000 := by decide
                                       omega)
        simp only [List.length_append, List.length_cons]
        omega
      · exact i2 y h1
def Res (o : Option (List S49)) (R : List S49 × Bool) : Prop := (∀ L, o = some L → RowOk L → R = (L, true)) ∧ ((∀ L, o = some L → ¬ RowOk L) → R = ([], false))
theorem res_end (L : List S49) (b : Bool) (hb : b = true ↔ RowOk L) : Res (some L) (if b = true then (L, true) else ([], false)) := by
  refine ⟨fun L' e h => ?_, fun h => ?_⟩
  · obtain rfl := Option.some.inj e
    rw [if_pos (hb.2 h)]
  · rw [if_neg (fun e => h L rfl (hb.1 e))]
theorem rdOf_get (all : List ByteArray) (i : Int) (h0 : 0 ≤ i) (h1 : i < (all.length : Int)) : rdOf ByteArray.empty all i ∈ all ∧ all.drop i.toNat = rdOf ByteArray.empty all i :: all.drop (i + 1).toNat := by
  have hi : i.toNat < all.length := by omega
  have e : rdOf ByteArray.empty all i = all[i.toNat] := by
    unfold rdOf
    rw [List.getD_eq_getElem?_getD, List.getElem?_eq_getElem hi]
    rfl
  rw [e]
  refine ⟨List.getElem_mem _, ?_⟩
  rw [List.drop_eq_getElem_cons hi, show (i + 1).toNat = i.toNat + 1 by omega]
theorem spec_loop {sp : ByteArray → Option (Int × Int)} (hsp : ∀ x, x.size ≤ 1048576 → SPiece x (sp x)) (all : List ByteArray) (hall : ∀ x ∈ all, x.size ≤ 1048576) (hal : all.length ≤ 4000000) (n : Nat) : ∀ (L : List S49) (i : Int), 0 ≤ i → (all.length : Int) - i = n → L.length + n ≤ 4000000 →
    ∃ R : List S49 × Bool, Ev (fun k => spec_swParse.l0 k L all (all.length : Int) i) R ∧ Res (run sp (all.drop i.toNat) L) R := by
  induction n with
  | zero =>
    intro L i h0 h1 h2
    obtain ⟨b, ⟨K, e1⟩, _, hb⟩ := row_ev L (by omega)
    have hd : all.drop i.toNat = [] := List.drop_eq_nil_of_le (by omega)
    refine ⟨_, ?_, by rw [hd]; exact res_end L b hb⟩
    refine stepK K (f := fun _ => some (if b = true then (L, true) else ([], false))) (fun k hk => ?_) (Ev.now _)
    simp only [spec_swParse.l0]
    rw [if_neg (by omega), bind_eq (e1 k hk)]
    cases b <;> rfl
  | succ n ih =>
    intro L i h0 h1 h2
    have hi : i < (all.length : Int) := by omega
    obtain ⟨hm, hd⟩ := rdOf_get all i h0 hi
    obtain ⟨R, hR, hc, hp⟩ := hsp _ (hall _ hm)
    rw [hd]
    simp only [run]
    rcases hc with ⟨ho, hl⟩ | ⟨u, v, a, b, rfl, hu, hv, ho⟩
    · rw [ho]
      refine ⟨([], false), stepK 1048577 (f := fun _ => some ([], false)) (fun k hk => ?_) (Ev.now _), ⟨(fun L e => by cases e), fun _ => rfl⟩⟩
      simp only [spec_swParse.l0]
      rw [if_pos hi, if_pos h0, if_pos hi, bind_eq (hR k (by omega)), if_neg (by omega)]
    · rw [ho]
      obtain ⟨R', e1, e2⟩ := ih (L ++ [(⟨a, b⟩ : S49)]) (i + 1) (by omega) (by omega) (by rw [List.length_append, List.length_singleton]; omega)
      refine ⟨R', stepK 1048577 (fun k hk => ?_) e1, e2⟩
      have r0 : rdOf ByteArray.empty [u, v] 0 = u := rfl
      have r1 : rdOf ByteArray.empty [u, v] 1 = v := rfl
      simp only [spec_swParse.l0]
      rw [if_pos hi, if_pos h0, if_pos hi, bind_eq (hR k (by omega)), if_pos (by simp), if_pos (by simp), r0, bind_eq (hu k (by omega)), if_pos (by simp), r1, bind_eq (hv k (by omega)), if_pos (by omega), wrap_id (x := i + 1) (by omega) (by omega)]
theorem cut_le (c : UInt8) (l : List UInt8) : (Lib.cut l [c]).1.length ≤ l.length ∧ (Lib.cut l [c]).2.1.length ≤ l.length := by
  rcases Dig.parts c l with h | ⟨a, r, ha, rfl⟩
  · rw [Dig.cut_no c l h]; simp
  · rw [Dig.cut_app c a r ha]
    simp only [List.length_append, List.length_cons]
    omega
theorem impl_loop (all : List ByteArray) (hall : ∀ x ∈ all, x.size ≤ 1048576) (hal : all.length ≤ 4000000) (n : Nat) : ∀ (L : List S49) (i : Int), 0 ≤ i → (all.length : Int) - i = n → L.length + n ≤ 4000000 →
    ∃ R : List S49 × Bool, Ev (fun k => impl_ParsePoles.l0 k L all (all.length : Int) i) R ∧ Res (run ip (all.drop i.toNat) L) R := by
  induction n with
  | zero =>
    intro L i h0 h1 h2
    obtain ⟨b, _, ⟨K, e1⟩, hb⟩ := row_ev L (by omega)
    have hd : all.drop i.toNat = [] := List.drop_eq_nil_of_le (by omega)
    refine ⟨_, ?_, by rw [hd]; exact res_end L b hb⟩
    refine stepK K (f := fun _ => some (if b = true then (L, true) else ([], false))) (fun k hk => ?_) (Ev.now _)
    simp only [impl_ParsePoles.l0]
    rw [if_neg (by omega), bind_eq (e1 k hk)]
    cases b <;> rfl
  | succ n ih =>
    intro L i h0 h1 h2
    have hi : i < (all.length : Int) := by omega
    obtain ⟨hm, hd⟩ := rdOf_get all i h0 hi
    have hs := hall _ hm
    obtain ⟨l1, l2⟩ := cut_le 124 (rdOf ByteArray.empty all i).data.toList
    rw [← size_len] at l1 l2
    rw [hd]
    simp only [run]
    obtain ⟨x, hx⟩ : ∃ x, rdOf ByteArray.empty all i = x := ⟨_, rfl⟩
    rw [hx] at hs l1 l2 ⊢
    have c1 : lib_Cut.f x (⟨#[124]⟩ : ByteArray) = some (bs (Lib.cut x.data.toList [124]).1, bs (Lib.cut x.data.toList [124]).2.1, (Lib.cut x.data.toList [124]).2.2) := by
      unfold lib_Cut.f
      rw [if_pos (by omega)]
      rfl
    have c2 : impl_number.f (bs (Lib.cut x.data.toList [124]).1) = some (Num.num (bs (Lib.cut x.data.toList [124]).1)) := by
      unfold impl_number.f
      rw [if_pos (by rw [size_len, bs_list]; omega)]
    have c3 : impl_number.f (bs (Lib.cut x.data.toList [124]).2.1) = some (Num.num (bs (Lib.cut x.data.toList [124]).2.1)) := by
      unfold impl_number.f
      rw [if_pos (by rw [size_len, bs_list]; omega)]
    have comp : ∀ k, impl_ParsePoles.l0 (k + 1) L all (all.length : Int) i = match ip x with
        | none => some ([], false)
        | some p => impl_ParsePoles.l0 k (L ++ [(⟨p.1, p.2⟩ : S49)]) all (all.length : Int) (i + 1) := fun k => by
      simp only [impl_ParsePoles.l0]
      rw [if_pos hi, if_pos h0, if_pos hi, hx, bind_eq c1]
      simp only []
      rw [bind_eq c2, bind_eq c3]
      unfold ip
      by_cases o1 : (Num.num (bs (Lib.cut x.data.toList [124]).1)).2 = true
      · by_cases o2 : (Num.num (bs (Lib.cut x.data.toList [124]).2.1)).2 = true
        · rw [if_pos o1, if_pos o2, if_pos (by omega), if_pos o1, if_pos o2, wrap_id (x := i + 1) (by omega) (by omega)]
        · rw [if_pos o1, if_neg o2, if_pos o1, if_neg o2]
      · rw [if_neg o1, if_neg o1]
    cases hf : ip x with
    | none =>
      refine ⟨([], false), stepK 0 (f := fun _ => some ([], false)) (fun k hk => ?_) (Ev.now _), ⟨(fun L e => by cases e), fun _ => rfl⟩⟩
      rw [comp k, hf]
    | some p =>
      obtain ⟨R', e1, e2⟩ := ih (L ++ [(⟨p.1, p.2⟩ : S49)]) (i + 1) (by omega) (by omega) (by rw [List.length_append, List.length_singleton]; omega)
      refine ⟨R', stepK 0 (fun k hk => ?_) e1, e2⟩
      rw [comp k, hf]

theorem chop_sum (c : UInt8) (l : List UInt8) : ∀ acc, ((Dig.chop c acc l).map List.length).sum + (Dig.chop c acc l).length = acc.length + l.length + 1 := by
  induction l with
  | nil => intro acc; simp [Dig.chop]
  | cons b r ih =>
    intro acc
    simp only [Dig.chop]
    by_cases h : b = c
    · rw [if_pos h]
      have := ih []
      simp only [List.map_cons, List.sum_cons, List.length_cons, List.length_nil] at this ⊢
      omega
    · rw [if_neg h]
      have := ih (acc ++ [b])
      simp only [List.length_append, List.length_cons, List.length_nil] at this ⊢
      omega
theorem chop_le (c : UInt8) (l : List UInt8) : ∀ acc, ∀ p ∈ Dig.chop c acc l, p.length ≤ acc.length + l.length := by
  induction l with
  | nil => intro acc p hp; simp [Dig.chop] at hp; rw [hp]; omega
  | cons b r ih =>
    intro acc p hp
    simp only [Dig.chop] at hp
    by_cases h : b = c
    · rw [if_pos h] at hp
      rcases List.mem_cons.1 hp with h1 | h1
      · rw [h1]; omega
      · have := ih [] p h1
        simp only [List.length_nil, List.length_cons] at this ⊢
        omega
    · rw [if_neg h] at hp
      have := ih (acc ++ [b]) p hp
      simp only [List.length_append, List.length_cons, List.length_nil] at this ⊢
      omega
theorem sum_le (xs : List ByteArray) (h : ∀ x ∈ xs, x.size ≤ 7) : ((xs.map (·.data.toList)).map List.length).sum ≤ 7 * xs.length := by
  induction xs with
  | nil => simp
  | cons x r ih =>
    have h1 := ih (fun y hy => h y (List.mem_cons_of_mem _ hy))
    have h2 := h x (by simp)
    rw [size_len] at h2
    simp only [List.map_cons, List.sum_cons, List.length_cons]
    omega
theorem both (s : ByteArray) (hs : s.size ≤ 1048576) : ∃ R : List S49 × Bool, R.1.length ≤ 4000000 ∧ Ev (fun k => spec_ParsePoles.f k s) R ∧ Ev (fun k => impl_ParsePoles.f k s) R := by
  obtain ⟨sp, hsp⟩ := Classical.axiomOfChoice spiece
  obtain ⟨P, hP, hPl, hf⟩ := split_ev s 44 hs
  have hf44 : ∀ k, 1048576 < k → spec_l1Split.f k s 44 = some P := hf
  have hall : ∀ x ∈ P, x.size ≤ 1048576 := fun x hx => by
    have h1 : x.data.toList ∈ Dig.chop 44 [] s.data.toList := by rw [← hP]; exact List.mem_map_of_mem hx
    have h2 := chop_le 44 s.data.toList [] _ h1
    rw [size_len]
    rw [← size_len s] at h2
    simp only [List.length_nil] at h2
    omega
  have hi : lib_Split.f s (⟨#[44]⟩ : ByteArray) = some P := by
    unfold lib_Split.f
    rw [if_pos ⟨by omega, by decide⟩]
    congr 1
    have h1 := Lib.splitB_data (⟨#[44]⟩ : ByteArray) 0 (Lib.countB s (⟨#[44]⟩ : ByteArray)) s
    have h2 : Lib.splitK (⟨#[44]⟩ : ByteArray).data.toList 0 (Lib.countB s (⟨#[44]⟩ : ByteArray)) s.data.toList = Dig.chop 44 [] s.data.toList := Dig.splitK_chop 44 s.data.toList.length s.data.toList (Nat.le_refl _)
    rw [h2, ← hP] at h1
    exact (List.map_inj_right (fun x y h => by
      apply ByteArray.ext; exact Array.toList_inj.1 h)).1 h1
  obtain ⟨Rs, ⟨K1, es⟩, rs⟩ := spec_loop hsp P hall (by omega) P.length [] 0 (by omega) (by omega) (by simp; omega)
  obtain ⟨Ri, ⟨K2, ei⟩, ri⟩ := impl_loop P hall (by omega) P.length [] 0 (by omega) (by omega) (by simp; omega)
  have hpc : ∀ x ∈ P, Piece x (ip x) ∧ Piece x (sp x) := fun x hx => ⟨ipiece x, let ⟨_, _, _, h⟩ := hsp x (hall x hx); h⟩
  have hpc2 : ∀ x ∈ P, Piece x (sp x) ∧ Piece x (ip x) := fun x hx => ⟨(hpc x hx).2, (hpc x hx).1⟩
  have simpl : ∀ k, spec_ParsePoles.f k s = spec_swParse.f k s := fun k => by
    simp only [spec_ParsePoles.f]
    cases spec_swParse.f k s <;> rfl
  have small : ¬ s.size > 50 → ∀ k, 1048576 + K1 < k → spec_ParsePoles.f k s = some Rs := fun h50 k hk => by
    rw [simpl]
    simp only [spec_swParse.f]
    rw [if_neg (by omega), bind_eq (hf44 k (by omega))]
    exact es k (by omega)
  have implr : ∀ k, K2 ≤ k → impl_ParsePoles.f k s = some Ri := fun k hk => by
    simp only [impl_ParsePoles.f]
    rw [bind_eq hi]
    exact ei k hk
  by_cases hA : ∃ L, run ip P [] = some L ∧ RowOk L
  · obtain ⟨L, hL, hok⟩ := hA
    obtain ⟨h1, h2⟩ := run_agree P [] L hpc hL (row_range L hok)
    have e1 := rs.1 L h1 hok
    have e2 := ri.1 L hL hok
    obtain ⟨t, ht, htl⟩ := run_pre ip P [] L hL
    have h3 := sum_le P h2
    have h4 := chop_sum 44 s.data.toList []
    rw [← hP] at h4
    simp only [List.length_map, List.length_nil] at h4
    rw [← size_len s] at h4
    have h5 := hok.1
    rw [ht] at h5
    simp only [List.nil_append] at h5
    refine ⟨(L, true), by rw [ht]; simp only [List.nil_append]; omega, ⟨1048577 + K1, fun k hk => ?_⟩, ⟨K2, fun k hk => ?_⟩⟩
    · show spec_ParsePoles.f k s = _
      rw [small (by omega) k (by omega), e1]
    · show impl_ParsePoles.f k s = _
      rw [implr k hk, e2]
  · have hB : ∀ L, run ip P [] = some L → ¬ RowOk L := fun L h1 h2 => hA ⟨L, h1, h2⟩
    have e2 := ri.2 hB
    have e1 := rs.2 (fun L h1 h2 => hB L (run_agree P [] L hpc2 h1 (row_range L h2)).1 h2)
    refine ⟨([], false), by simp, ⟨1048577 + K1, fun k hk => ?_⟩, ⟨K2, fun k hk => ?_⟩⟩
    · show spec_ParsePoles.f k s = _
      by_cases h50 : s.size > 50
      · rw [simpl]
        simp only [spec_swParse.f]
        rw [if_pos (by omega)]
      · rw [small h50 k (by omega), e1]
    · show impl_ParsePoles.f k s = _
      rw [implr k hk, e2]
theorem pure (s : ByteArray) : ∃ k, laws_FnExactParsePoles.f k s = some true := by
  by_cases hl : 1048576 < s.size
  · refine ⟨0, ?_⟩
    simp only [laws_FnExactParsePoles.f]
    rw [if_pos (by omega)]
  · obtain ⟨⟨R, o⟩, hRl, ⟨K1, h1⟩, ⟨K2, h2⟩⟩ := both s (by omega)
    obtain ⟨K3, h3⟩ := eqPoleS_ev R (by simp only [] at hRl; omega)
    obtain ⟨m, M, hm, ⟨K4, h4⟩, ⟨K5, h5⟩⟩ := markPoleS_ev R (by simp only [] at hRl; omega)
    have hn : ¬ m < 0 := by omega
    have hsz : ¬ ((s.size : Int) > 1048576) := by omega
    refine ⟨K1 + K2 + K3 + K4 + K5 + 10, ?_⟩
    simp (disch := omega) [laws_FnExactParsePoles.f, laws_FnExactParsePoles.j0, laws_FnExactParsePoles.j1, h1, h2, h3, h4, h5, hn, hsz]
theorem join (s : ByteArray) (hs : s.size ≤ 140737488355328) (w : World) (hR : TextC.Ready w) : Calls Tryd.prog 6 #[.string s] w fun e w' => e = .returned (.bool true) ∧ Below w.heap.size w w' := by
  obtain ⟨k, hk⟩ := pure s
  exact laws_FnExactParsePoles.calls k s true w hk ⟨hR⟩
end Go.Proofs.YtpmaapalpecjcaaDoor.QPJoin
