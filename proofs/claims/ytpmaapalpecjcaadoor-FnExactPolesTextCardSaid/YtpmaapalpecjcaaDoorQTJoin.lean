/- The plain law and the walk of FnExactPolesText joined: whatever the poles, the law returns true. Condition: the library's variables (Ready). -/
import Derived.Test.YtpmaapalpecjcaaDoorQT7
import Derived.Test.YtpmaapalpecjcaaDoorDec
import Derived.Lib.Join
import Derived.ProofKit
import Derived.OpenShut
import Derived.SizedLaws
import Derived.Lib.SmallJoins
import Derived.Deep.Slices
import Derived.ChangeSame
namespace Go.Proofs.YtpmaapalpecjcaaDoor.QTJoin
open Go.RowKit Go.Joins Go.ChangeShapes Go.WideShapes Go.Proofs.YtpmaapalpecjcaaDoor.PFnExactPolesText Go.Proofs.YtpmaapalpecjcaaDoorW.PrintWords Go.Proofs.YtpmaapalpecjcaaDoor.GivenT
set_option linter.unusedVariables false
set_option linter.unusedSimpArgs false

theorem stepK {α : Type} {g f : Nat → Option α} {r : α} (K0 : Nat) (h : ∀ k, K0 ≤ k → g (k + 1) = f k) (hf : Ev f r) : Ev g r := by
  obtain ⟨K, hK⟩ := hf
  refine ⟨K + K0 + 1, fun k hk => ?_⟩
  obtain ⟨k, rfl⟩ : ∃ m, k = m + 1 := ⟨k - 1, by omega⟩
  rw [h k (by omega), hK k (by omega)]
theorem congrK {α : Type} {g f : Nat → Option α} {r : α} (K0 : Nat) (h : ∀ k, K0 ≤ k → g k = f k) (hf : Ev f r) : Ev g r := by
  obtain ⟨K, hK⟩ := hf
  exact ⟨K + K0, fun k hk => by rw [h k (by omega), hK k (by omega)]⟩

theorem bind_eq {α β : Type} {g : Option α} {a : α} (h : g = some a) (f : α → Option β) : g.bind f = f a := by rw [h]; rfl

theorem wrap_id {x : Int} (h0 : -9223372036854775808 ≤ x) (h1 : x ≤ 9223372036854775807) : wrap64 x = x := by unfold wrap64; omega

theorem in_eq (a b c : Int) : spec_l1In.f a b c = some (decide (b ≤ a ∧ a ≤ c)) := by
  unfold spec_l1In.f
  by_cases h : a ≥ b
  · rw [if_pos h]; simp [h]
  · rw [if_neg h]; simp; omega

theorem within_eq (a b c : Int) : impl_within.f a b c = some (decide (b ≤ a ∧ a ≤ c)) := by
  unfold impl_within.f
  by_cases h : a ≥ b
  · rw [if_pos h]; simp [h]
  · rw [if_neg h]; simp; omega

theorem mulb {a b A B : Int} (ha : 0 ≤ a) (ha2 : a ≤ A) (hb : 0 ≤ b) (hb2 : b ≤ B) : 0 ≤ a * b ∧ a * b ≤ A * B :=
  ⟨Int.mul_nonneg ha hb, Int.mul_le_mul ha2 hb2 hb (by omega)⟩

theorem pole_spec (a b : Int) : spec_swPole.f a b = some (decide ((1 ≤ a ∧ a ≤ 500) ∧ (1 ≤ b ∧ b ≤ 200))) := by
  simp only [spec_swPole.f, in_eq, Option.bind_some, decide_eq_true_eq]
  by_cases h : 1 ≤ a ∧ a ≤ 500 <;> simp [h]

theorem pole_impl (a b : Int) : impl_isPole.f a b = some (decide ((1 ≤ a ∧ a ≤ 500) ∧ (1 ≤ b ∧ b ≤ 200))) := by
  simp only [impl_isPole.f, impl_isPlace.f, impl_isHigh.f, within_eq, Option.bind_some, decide_eq_true_eq]
  by_cases h : 1 ≤ a ∧ a ≤ 500 <;> simp [h]


/-- What both sides take for a pole at its place. -/
def OkRow (l : List S49) (j : Int) : Prop := ((1 ≤ (rd_T49 l j).f0 ∧ (rd_T49 l j).f0 ≤ 500) ∧ (1 ≤ (rd_T49 l j).f1 ∧ (rd_T49 l j).f1 ≤ 200)) ∧ (0 < j → (rd_T49 l (j - 1)).f0 < (rd_T49 l j).f0)
theorem row_l (n : Nat) : ∀ (l : List S49) (i : Int), 0 ≤ i → (l.length : Int) - i = n → l.length ≤ 1000000000 → ∃ b : Bool, Ev (fun k => spec_swRow.l0 k l l (l.length : Int) i) b ∧ (b = true ↔ ∀ j, i ≤ j → j < l.length → OkRow l j) := by
  induction n with
  | zero =>
    intro l i h0 h1 h2
    refine ⟨true, Ev.step (f := fun _ => some true) (fun k => ?_) (Ev.now _), by simp; intro j _ _; omega⟩
    simp only [spec_swRow.l0]
    rw [if_neg (by omega)]
  | succ n ih =>
    intro l i h0 h1 h2
    obtain ⟨b, hb, hi⟩ := ih l (i + 1) (by omega) (by omega) h2
    have hlt : i < (l.length : Int) := by omega
    by_cases c : (1 ≤ (rd_T49 l i).f0 ∧ (rd_T49 l i).f0 ≤ 500) ∧ (1 ≤ (rd_T49 l i).f1 ∧ (rd_T49 l i).f1 ≤ 200)
    · by_cases c2 : 0 < i ∧ (rd_T49 l i).f0 ≤ (rd_T49 l (i - 1)).f0
      · refine ⟨false, Ev.step (f := fun _ => some false) (fun k => ?_) (Ev.now _), ?_⟩
        · simp only [spec_swRow.l0, pole_spec, Option.bind_some, decide_eq_true_eq]
          rw [if_pos hlt, if_pos h0, if_pos hlt, if_pos c, if_pos c2.1, wrap_id (x := i - 1) (by omega) (by omega), if_pos (by omega), if_pos (by omega), if_pos c2.2]
        · simp only [Bool.false_eq_true, false_iff]
          intro H
          have := (H i (by omega) hlt).2 c2.1
          omega
      · refine ⟨b, Ev.step (fun k => ?_) hb, ?_⟩
        · simp only [spec_swRow.l0, pole_spec, Option.bind_some, decide_eq_true_eq]
          rw [if_pos hlt, if_pos h0, if_pos hlt, if_pos c, wrap_id (x := i + 1) (by omega) (by omega)]
          by_cases c3 : i > 0
          · rw [if_pos c3, wrap_id (x := i - 1) (by omega) (by omega), if_pos (by omega), if_pos (by omega), if_neg (fun h => c2 ⟨c3, h⟩)]
          · rw [if_neg c3]
        · rw [hi]
          constructor
          · intro H j h3 h4
            by_cases e : j = i
            · subst e
              exact ⟨c, fun hp => by omega⟩
            · exact H j (by omega) h4
          · intro H j h3 h4
            exact H j (by omega) h4
    · refine ⟨false, Ev.step (f := fun _ => some false) (fun k => ?_) (Ev.now _), ?_⟩
      · simp only [spec_swRow.l0, pole_spec, Option.bind_some, decide_eq_true_eq]
        rw [if_pos hlt, if_pos h0, if_pos hlt, if_neg c]
      · simp only [Bool.false_eq_true, false_iff]
        intro H
        exact c (H i (by omega) hlt).1


theorem any_l (n : Nat) : ∀ (l : List S49) (i : Int), 0 ≤ i → (l.length : Int) - i = n → l.length ≤ 1000000000 →
    ∃ b : Bool, Ev (fun k => impl_areAnyPoles.l0 k l l (l.length : Int) i) b ∧ (b = true ↔ (∀ j, i ≤ j → j < l.length → OkRow l j) ∧ (1 ≤ (l.length : Int) ∧ (l.length : Int) ≤ 6)) := by
  induction n with
  | zero =>
    intro l i h0 h1 h2
    refine ⟨decide (1 ≤ (l.length : Int) ∧ (l.length : Int) ≤ 6), Ev.step (f := fun _ => some (decide (1 ≤ (l.length : Int) ∧ (l.length : Int) ≤ 6))) (fun k => ?_) (Ev.now _), ?_⟩
    · simp only [impl_areAnyPoles.l0, within_eq, Option.bind_some]
      rw [if_neg (by omega)]
    · rw [decide_eq_true_eq]
      exact ⟨fun h => ⟨fun j _ _ => by omega, h⟩, fun h => h.2⟩
  | succ n ih =>
    intro l i h0 h1 h2
    obtain ⟨b, hb, hi⟩ := ih l (i + 1) (by omega) (by omega) h2
    have hlt : i < (l.length : Int) := by omega
    by_cases c : (1 ≤ (rd_T49 l i).f0 ∧ (rd_T49 l i).f0 ≤ 500) ∧ (1 ≤ (rd_T49 l i).f1 ∧ (rd_T49 l i).f1 ≤ 200)
    · by_cases c2 : 0 < i ∧ (rd_T49 l i).f0 ≤ (rd_T49 l (i - 1)).f0
      · refine ⟨false, Ev.step (f := fun _ => some false) (fun k => ?_) (Ev.now _), ?_⟩
        · simp only [impl_areAnyPoles.l0, pole_impl, Option.bind_some, decide_eq_true_eq]
          rw [if_pos hlt, if_pos h0, if_pos hlt, if_pos c, if_pos c2.1, wrap_id (x := i - 1) (by omega) (by omega), if_pos (by omega), if_pos (by omega), if_pos (show (rd_T49 l (i - 1)).f0 ≥ (rd_T49 l i).f0 from c2.2)]
        · simp only [Bool.false_eq_true, false_iff]
          intro H
          have := (H.1 i (by omega) hlt).2 c2.1
          omega
      · refine ⟨b, Ev.step (fun k => ?_) hb, ?_⟩
        · simp only [impl_areAnyPoles.l0, pole_impl, Option.bind_some, decide_eq_true_eq]
          rw [if_pos hlt, if_pos h0, if_pos hlt, if_pos c, wrap_id (x := i + 1) (by omega) (by omega)]
          by_cases c3 : i > 0
          · rw [if_pos c3, wrap_id (x := i - 1) (by omega) (by omega), if_pos (by omega), if_pos (by omega), if_neg (fun h => c2 ⟨c3, h⟩)]
          · rw [if_neg c3]
        · rw [hi]
          constructor
          · intro H
            refine ⟨fun j h3 h4 => ?_, H.2⟩
            by_cases e : j = i
            · subst e
              exact ⟨c, fun hp => by omega⟩
            · exact H.1 j (by omega) h4
          · intro H
            exact ⟨fun j h3 h4 => H.1 j (by omega) h4, H.2⟩
    · refine ⟨false, Ev.step (f := fun _ => some false) (fun k => ?_) (Ev.now _), ?_⟩
      · simp only [impl_areAnyPoles.l0, pole_impl, Option.bind_some, decide_eq_true_eq]
        rw [if_pos hlt, if_pos h0, if_pos hlt, if_neg c]
      · simp only [Bool.false_eq_true, false_iff]
        intro H
        exact c (H.1 i (by omega) hlt).1
def RowOk (l : List S49) : Prop := (1 ≤ (l.length : Int) ∧ (l.length : Int) ≤ 6) ∧ ∀ j : Int, 0 ≤ j → j < l.length → OkRow l j
/-- Both sides tell alike whether there are poles of some lamp. -/
theorem row_ev (l : List S49) (h : l.length ≤ 1000000000) : ∃ b : Bool, Ev (fun k => spec_swRow.f k l) b ∧ Ev (fun k => impl_areAnyPoles.f k l) b ∧ (b = true ↔ RowOk l) := by
  obtain ⟨b1, e1, i1⟩ := any_l l.length l 0 (by omega) (by omega) h
  obtain ⟨b2, e2, i2⟩ := row_l l.length l 0 (by omega) (by omega) h
  have i1' : b1 = true ↔ RowOk l := by
    rw [i1]
    exact ⟨fun H => ⟨H.2, fun j hj hj2 => H.1 j hj hj2⟩, fun H => ⟨fun j hj hj2 => H.2 j hj hj2, H.1⟩⟩
  refine ⟨b1, ?_, e1, i1'⟩
  by_cases c2 : 1 ≤ (l.length : Int) ∧ (l.length : Int) ≤ 6
  · have eb : b2 = b1 := by
      rw [Bool.eq_iff_iff, i2, i1]
      exact ⟨fun H => ⟨H, c2⟩, fun H => H.1⟩
    rw [eb] at e2
    refine congrK 0 (fun k _ => ?_) e2
    simp only [spec_swRow.f, in_eq, Option.bind_some, decide_eq_true_eq]
    rw [if_pos c2]
  · have eb : b1 = false := by
      rw [← Bool.not_eq_true, i1]
      exact fun H => c2 H.2
    rw [eb]
    refine ⟨0, fun k _ => ?_⟩
    simp only [spec_swRow.f, in_eq, Option.bind_some, decide_eq_true_eq]
    rw [if_neg c2]
theorem row_range (l : List S49) (h : RowOk l) : ∀ p ∈ l, (1 ≤ p.f0 ∧ p.f0 ≤ 500) ∧ (1 ≤ p.f1 ∧ p.f1 ≤ 200) := fun p hp => by
  obtain ⟨j, hj, e⟩ := List.getElem_of_mem hp
  have := (h.2 (j : Int) (by omega) (by omega)).1
  have e2 : rd_T49 l (j : Int) = p := by
    unfold rd_T49
    rw [List.getD_eq_getElem?_getD, Int.toNat_natCast, List.getElem?_eq_getElem hj, e]
    rfl
  rw [e2] at this
  exact this

def conv (p : S51) : S49 := ⟨p.f0, p.f1⟩

theorem toPoleS_l (b : List S51) : ∀ (a : List S51), (a ++ b).length ≤ 1000000000 → Ev (fun k => laws_toPoleS.l0 k (a ++ b) (a.map conv ++ List.replicate b.length z49) (a.length : Int)) ((a ++ b).map conv) := by
  induction b with
  | nil =>
    intro a h
    refine Ev.step (f := fun _ => some ((a ++ []).map conv)) (fun k => ?_) (Ev.now _)
    simp only [laws_toPoleS.l0]
    rw [if_neg (by simp)]
    simp
  | cons p b ih =>
    intro a h
    have ih2 := ih (a ++ [p]) (by simpa using h)
    simp only [List.length_append, List.length_cons] at h
    rw [List.append_assoc, List.singleton_append] at ih2
    refine Ev.step (fun k => ?_) ih2
    simp only [laws_toPoleS.l0, laws_toPole.f, Option.bind_some]
    rw [if_pos (by simp only [List.length_append, List.length_cons]; omega), if_pos (by omega), if_pos (by simp only [List.length_append, List.length_map, List.length_replicate, List.length_cons]; omega), wrap_id (x := (a.length : Int) + 1) (by omega) (by omega)]
    have e1 : rd_T51 (a ++ p :: b) (a.length : Int) = p := by
      unfold rd_T51
      simp
    rw [e1]
    have e2 : (a.map conv ++ List.replicate (p :: b).length z49).set ((a.length : Int)).toNat (⟨p.f0, p.f1⟩ : S49) = (a ++ [p]).map conv ++ List.replicate b.length z49 := by
      rw [Int.toNat_natCast, List.set_append_right _ _ (by simp)]
      simp [List.replicate_succ, conv]
    rw [e2]
    simp

theorem toPoleS_ev (l : List S51) (h : l.length ≤ 1000000000) : Ev (fun k => laws_toPoleS.f k l) (l.map conv) := by
  refine Ev.congr (fun k => ?_) (toPoleS_l l [] (by simpa using h))
  unfold laws_toPoleS.f
  rw [if_pos (by omega), if_pos (by omega)]
  simp

theorem szPoleS_ev (l : List S51) (h : l.length * 16 ≤ 140737488351232) : laws_szPoleS.f l 1048576 = some (if (1048576 - (l.length : Int)) < 0 then -1 else 1048576 - (l.length : Int)) := by
  unfold laws_szPoleS.f
  rw [wrap_id (by omega) (by omega)]
  by_cases c : 1048576 - (l.length : Int) < 0
  · rw [if_pos c, if_pos c]
  · rw [if_neg c, if_neg c]


theorem eqPoleS_l (n : Nat) : ∀ (l : List S49) (i : Int), 0 ≤ i → (l.length : Int) - i = n → l.length ≤ 1000000000000 → Ev (fun k => laws_eqPoleS.l0 k l l i) true := by
  induction n with
  | zero =>
    intro l i h0 h1 h2
    refine Ev.step (f := fun _ => some true) (fun k => ?_) (Ev.now true)
    simp only [laws_eqPoleS.l0]
    rw [if_neg (by omega)]
  | succ n ih =>
    intro l i h0 h1 h2
    refine Ev.step (f := fun k => laws_eqPoleS.l0 k l l (i + 1)) (fun k => ?_) (ih l (i + 1) (by omega) (by omega) h2)
    simp only [laws_eqPoleS.l0, laws_eqPole.f]
    rw [if_pos (show i < (l.length : Int) by omega), if_pos h0, wrap_id (x := i + 1) (by omega) (by omega)]
    simp
    try omega

theorem eqPoleS_ev (l : List S49) (h : l.length ≤ 1000000000000) : Ev (fun k => laws_eqPoleS.f k l l) true := by
  refine Ev.congr (f := fun k => laws_eqPoleS.l0 k l l 0) (fun k => ?_) (eqPoleS_l l.length l 0 (by omega) (by omega) h)
  unfold laws_eqPoleS.f
  rw [if_pos rfl]
theorem l1Num_dec (n : Nat) : ∀ k : Nat, n < 10000 → n < k → spec_l1Num.f k (n : Int) = some (Dec.dec n) := by
  induction n using Nat.strongRecOn with
  | _ n ih =>
    intro k hn hk
    obtain ⟨k, rfl⟩ : ∃ m, k = m + 1 := ⟨k - 1, by omega⟩
    simp only [spec_l1Num.f]
    by_cases h : n < 10
    · rw [if_pos (by omega), Dec.one_num n h, Dec.dec_small h]
    · have e1 : wrap64 (Int.tdiv (n : Int) 10) = ((n / 10 : Nat) : Int) := by
        rw [Int.tdiv_eq_ediv_of_nonneg (by omega), wrap_id (by omega) (by omega)]
        omega
      have e2 : Int.tmod (n : Int) 10 = ((n % 10 : Nat) : Int) := by
        rw [Int.tmod_eq_emod_of_nonneg (by omega)]
        omega
      rw [if_neg (by omega), e1, ih (n / 10) (by omega) k (by omega) (by omega), e2]
      simp only [Option.bind_some]
      rw [Dec.one_num (n % 10) (by omega)]
      have hs := Dec.dec_le (n / 10) (by omega)
      have hs1 : (⟨#[UInt8.ofNat (48 + n % 10)]⟩ : ByteArray).size = 1 := rfl
      rw [if_pos (by omega), Dec.dec_big h]

/-- The text of a pole, as bytes. -/
def pt (p : S49) : ByteArray := (Dec.dec p.f0.toNat ++ (⟨#[124]⟩ : ByteArray)) ++ Dec.dec p.f1.toNat
def InR (p : S49) : Prop := (1 ≤ p.f0 ∧ p.f0 ≤ 500) ∧ (1 ≤ p.f1 ∧ p.f1 ≤ 200)
theorem num_int (k : Nat) (n : Int) (h0 : 0 ≤ n) (h1 : n < 10000) (hk : 10000 ≤ k) : spec_l1Num.f k n = some (Dec.dec n.toNat) := by
  have := l1Num_dec n.toNat k (by omega) (by omega)
  rw [show ((n.toNat : Nat) : Int) = n by omega] at this
  exact this
theorem text_int (n : Int) (h0 : 0 ≤ n) (h1 : n < 10000) : impl_text.f n = some (Dec.dec n.toNat) := by
  unfold impl_text.f
  rw [if_pos (by omega)]
  congr 1
  unfold Dec.dec Lib.itoa
  rw [if_neg (by omega)]
theorem dec_sz (p : S49) (h : InR p) : (Dec.dec p.f0.toNat).size ≤ 4 ∧ (Dec.dec p.f1.toNat).size ≤ 4 := by
  obtain ⟨h1, h2⟩ := h
  exact ⟨Dec.dec_le _ (by omega), Dec.dec_le _ (by omega)⟩
theorem one124 : (⟨#[124]⟩ : ByteArray).size = 1 := rfl
theorem one44 : (⟨#[44]⟩ : ByteArray).size = 1 := rfl
theorem pt_size (p : S49) (h : InR p) : (pt p).size ≤ 9 := by
  obtain ⟨h1, h2⟩ := dec_sz p h
  unfold pt
  rw [ByteArray.size_append, ByteArray.size_append, one124]
  omega
theorem rdT_get (l : List S49) (i : Int) (h0 : 0 ≤ i) (h1 : i < (l.length : Int)) : rd_T49 l i ∈ l ∧ l.drop i.toNat = rd_T49 l i :: l.drop (i + 1).toNat := by
  have hi : i.toNat < l.length := by omega
  have e : rd_T49 l i = l[i.toNat] := by
    unfold rd_T49
    rw [List.getD_eq_getElem?_getD, List.getElem?_eq_getElem hi]
    rfl
  rw [e]
  refine ⟨List.getElem_mem _, ?_⟩
  rw [List.drop_eq_getElem_cons hi, show (i + 1).toNat = i.toNat + 1 by omega]
/-- What spec.swText lays behind what is there. -/
def glue (first : Bool) : List S49 → List UInt8
  | [] => []
  | p :: r => (if first then [] else [44]) ++ (pt p).data.toList ++ glue false r
theorem spec_text (l : List S49) (hl : l.length ≤ 6) (hr : ∀ p ∈ l, InR p) (n : Nat) : ∀ (acc : ByteArray) (i : Int), 0 ≤ i → (l.length : Int) - i = n → (acc.size : Int) ≤ 10 * i →
    ∃ R : ByteArray, Ev (fun k => spec_swText.l0 k acc l (l.length : Int) i) R ∧ R.data.toList = acc.data.toList ++ glue (decide (i = 0)) (l.drop i.toNat) := by
  induction n with
  | zero =>
    intro acc i h0 h1 h2
    refine ⟨acc, stepK 0 (f := fun _ => some acc) (fun k _ => ?_) (Ev.now _), ?_⟩
    · simp only [spec_swText.l0]
      rw [if_neg (by omega)]
    · rw [List.drop_eq_nil_of_le (by omega)]
      simp [glue]
  | succ n ih =>
    intro acc i h0 h1 h2
    have hi : i < (l.length : Int) := by omega
    obtain ⟨hm, hd⟩ := rdT_get l i h0 hi
    have hp := hr _ hm
    obtain ⟨p, hpx⟩ : ∃ p, rd_T49 l i = p := ⟨_, rfl⟩
    rw [hpx] at hp hd
    obtain ⟨s1, s2⟩ := dec_sz p hp
    have n1 : ∀ k, 10000 ≤ k → spec_l1Num.f k p.f0 = some (Dec.dec p.f0.toNat) := fun k hk => num_int k p.f0 (by have := hp.1.1; omega) (by have := hp.1.2; omega) hk
    have n2 : ∀ k, 10000 ≤ k → spec_l1Num.f k p.f1 = some (Dec.dec p.f1.toNat) := fun k hk => num_int k p.f1 (by have := hp.2.1; omega) (by have := hp.2.2; omega) hk
    by_cases hz : i > 0
    · obtain ⟨R, e1, e2⟩ := ih ((acc ++ (⟨#[44]⟩ : ByteArray)) ++ pt p) (i + 1) (by omega) (by omega) (by
        have := pt_size p hp
        rw [ByteArray.size_append, ByteArray.size_append, one44]
        omega)
      refine ⟨R, stepK 10000 (fun k hk => ?_) e1, ?_⟩
      · simp only [spec_swText.l0]
        rw [if_pos hi, if_pos h0, if_pos hi, if_pos hz, if_pos (by omega), hpx, bind_eq (n1 k hk), if_pos (by omega), bind_eq (n2 k hk),
          if_pos (by rw [ByteArray.size_append, one124]; omega), if_pos (by rw [ByteArray.size_append, ByteArray.size_append, ByteArray.size_append, one124, one44]; omega), wrap_id (x := i + 1) (by omega) (by omega)]
        rfl
      · rw [e2, hd]
        have d1 : decide (i = 0) = false := decide_eq_false (by omega)
        have d2 : decide (i + 1 = 0) = false := decide_eq_false (by omega)
        rw [d1, d2]
        simp [glue]
    · have hi0 : i = 0 := by omega
      obtain ⟨R, e1, e2⟩ := ih (acc ++ pt p) (i + 1) (by omega) (by omega) (by
        have := pt_size p hp
        rw [ByteArray.size_append]
        omega)
      refine ⟨R, stepK 10000 (fun k hk => ?_) e1, ?_⟩
      · simp only [spec_swText.l0]
        rw [if_pos hi, if_pos h0, if_pos hi, if_neg hz, hpx, bind_eq (n1 k hk), if_pos (by omega), bind_eq (n2 k hk),
          if_pos (by rw [ByteArray.size_append, one124]; omega), if_pos (by rw [ByteArray.size_append, ByteArray.size_append, one124]; omega), wrap_id (x := i + 1) (by omega) (by omega)]
        rfl
      · rw [e2, hd]
        have d1 : decide (i = 0) = true := decide_eq_true hi0
        have d2 : decide (i + 1 = 0) = false := decide_eq_false (by omega)
        rw [d1, d2]
        simp [glue]
theorem glue_join (l : List S49) : glue true l = Lib.join (l.map fun p => (pt p).data.toList) [44] := by
  have key : ∀ r : List S49, glue false r = Lib.joinTail [44] (r.map fun p => (pt p).data.toList) := fun r => by
    induction r with
    | nil => rfl
    | cons p r ih =>
      simp only [glue, Lib.joinTail, List.map_cons, List.flatten_cons] at ih ⊢
      rw [ih]
      simp
  cases l with
  | nil => rfl
  | cons p r =>
    rw [List.map_cons, Lib.join_cons, ← key]
    simp [glue]
theorem impl_text_l (l : List S49) (hl : l.length ≤ 6) (hr : ∀ p ∈ l, InR p) (n : Nat) : ∀ (acc : List ByteArray) (i : Int), 0 ≤ i → (l.length : Int) - i = n → (acc.length : Int) ≤ i →
    ∀ R : ByteArray, lib_Join.f (acc ++ (l.drop i.toNat).map pt) (⟨#[44]⟩ : ByteArray) = some R → Ev (fun k => impl_PolesText.l0 k acc l (l.length : Int) i) (R, true) := by
  induction n with
  | zero =>
    intro acc i h0 h1 h2 R hR
    rw [List.drop_eq_nil_of_le (by omega), List.map_nil, List.append_nil] at hR
    refine stepK 0 (f := fun _ => some (R, true)) (fun k _ => ?_) (Ev.now _)
    simp only [impl_PolesText.l0]
    rw [if_neg (by omega), bind_eq hR]
  | succ n ih =>
    intro acc i h0 h1 h2 R hR
    have hi : i < (l.length : Int) := by omega
    obtain ⟨hm, hd⟩ := rdT_get l i h0 hi
    have hp := hr _ hm
    obtain ⟨p, hpx⟩ : ∃ p, rd_T49 l i = p := ⟨_, rfl⟩
    rw [hpx] at hp hd
    obtain ⟨s1, s2⟩ := dec_sz p hp
    have n1 : impl_text.f p.f0 = some (Dec.dec p.f0.toNat) := text_int p.f0 (by have := hp.1.1; omega) (by have := hp.1.2; omega)
    have n2 : impl_text.f p.f1 = some (Dec.dec p.f1.toNat) := text_int p.f1 (by have := hp.2.1; omega) (by have := hp.2.2; omega)
    rw [hd, List.map_cons] at hR
    refine stepK 0 (fun k _ => ?_) (ih (acc ++ [pt p]) (i + 1) (by omega) (by omega) (by rw [List.length_append, List.length_singleton]; omega) R (by rw [List.append_assoc]; exact hR))
    simp only [impl_PolesText.l0]
    rw [if_pos hi, if_pos h0, if_pos hi, hpx, bind_eq n1, if_pos (by omega), bind_eq n2, if_pos (by rw [ByteArray.size_append, one124]; omega), if_pos (by omega), wrap_id (x := i + 1) (by omega) (by omega)]
    rfl
theorem lens_le (l : List S49) (hr : ∀ p ∈ l, InR p) : Lib.lens (l.map fun p => (pt p).data.toList) ≤ 9 * l.length := by
  induction l with
  | nil => simp [Lib.lens]
  | cons p r ih =>
    have h1 := ih (fun q hq => hr q (List.mem_cons_of_mem _ hq))
    have h2 := pt_size p (hr p (by simp))
    have h3 : (pt p).size = (pt p).data.toList.length := by rw [Array.length_toList]; rfl
    simp only [Lib.lens, List.map_cons, List.sum_cons, List.length_cons] at h1 ⊢
    omega
theorem texts (l : List S49) (hl : l.length ≤ 1000000000) : ∃ R : ByteArray × Bool, Ev (fun k => spec_PolesText.f k l) R ∧ Ev (fun k => impl_PolesText.f k l) R := by
  obtain ⟨b, ⟨K1, e1⟩, ⟨K2, e2⟩, hb⟩ := row_ev l hl
  cases b with
  | false =>
    refine ⟨((⟨#[]⟩ : ByteArray), false), ⟨K1, fun k hk => ?_⟩, ⟨K2, fun k hk => ?_⟩⟩
    · simp only [spec_PolesText.f]
      rw [bind_eq (e1 k hk)]
      rfl
    · simp only [impl_PolesText.f]
      rw [bind_eq (e2 k hk)]
      rfl
  | true =>
    have hok := hb.1 rfl
    have hr : ∀ p ∈ l, InR p := row_range l hok
    have h6 : l.length ≤ 6 := by have := hok.1.2; omega
    obtain ⟨R, ⟨K3, f1⟩, hR⟩ := spec_text l h6 hr l.length (⟨#[]⟩ : ByteArray) 0 (by omega) (by omega) (by show ((0 : Nat) : Int) ≤ _; omega)
    have hjl : (Lib.join (l.map fun p => (pt p).data.toList) [44]).length ≤ 100 := by
      cases hl0 : l with
      | nil => simp [Lib.join]
      | cons p r =>
        have := lens_le (p :: r) (by rw [← hl0]; exact hr)
        rw [List.map_cons, Lib.join_length]
        rw [hl0] at h6
        simp only [List.length_map, List.length_cons, List.length_nil, List.map_cons] at this h6 ⊢
        omega
    have hj : lib_Join.f ([] ++ (l.drop (0 : Int).toNat).map pt) (⟨#[44]⟩ : ByteArray) = some R := by
      have e0 : ([] ++ (l.drop (0 : Int).toNat).map pt) = l.map pt := by simp
      rw [e0]
      unfold lib_Join.f
      have e3 : ((l.map pt).map (·.data.toList)) = l.map fun p => (pt p).data.toList := by rw [List.map_map]; rfl
      have e4 : (⟨#[44]⟩ : ByteArray).data.toList = [44] := rfl
      rw [e3, e4, if_pos ⟨by rw [List.length_map]; omega, by omega⟩]
      congr 1
      apply ByteArray.ext
      apply Array.toList_inj.1
      rw [hR]
      have d0 : decide ((0 : Int) = 0) = true := rfl
      have d1 : l.drop (0 : Int).toNat = l := by simp
      rw [d0, d1, glue_join]
      simp
    obtain ⟨K4, f2⟩ := impl_text_l l h6 hr l.length [] 0 (by omega) (by omega) (by simp) R hj
    refine ⟨(R, true), ⟨K1 + K3, fun k hk => ?_⟩, ⟨K2 + K4, fun k hk => ?_⟩⟩
    · simp only [spec_PolesText.f]
      rw [bind_eq (e1 k (by omega)), if_pos rfl]
      have : spec_swText.f k l = some R := f1 k (by omega)
      rw [this]
      rfl
    · simp only [impl_PolesText.f]
      rw [bind_eq (e2 k (by omega)), if_pos rfl]
      exact f2 k (by omega)
theorem pure (l : List S51) (hl : l.length * 16 ≤ 140737488351232) : ∃ k, laws_FnExactPolesText.f k l = some true := by
  have hz := szPoleS_ev l hl
  by_cases c : 1048576 - (l.length : Int) < 0
  · rw [if_pos c] at hz
    refine ⟨0, ?_⟩
    simp only [laws_FnExactPolesText.f]
    rw [bind_eq hz, if_pos (by omega)]
  · rw [if_neg c] at hz
    obtain ⟨K1, h1⟩ := toPoleS_ev l (by omega)
    obtain ⟨⟨R, o⟩, ⟨K2, h2⟩, ⟨K3, h3⟩⟩ := texts (l.map conv) (by rw [List.length_map]; omega)
    obtain ⟨K4, h4⟩ := eqPoleS_ev (l.map conv) (by rw [List.length_map]; omega)
    refine ⟨K1 + K2 + K3 + K4 + 10, ?_⟩
    obtain ⟨k, hk⟩ : ∃ k, k = K1 + K2 + K3 + K4 + 9 := ⟨_, rfl⟩
    rw [show K1 + K2 + K3 + K4 + 10 = k + 1 by omega]
    simp only [laws_FnExactPolesText.f]
    rw [bind_eq hz, if_neg c, bind_eq (h1 (k + 1) (by omega)), bind_eq (h2 (k + 1) (by omega)), bind_eq (h1 (k + 1) (by omega)), bind_eq (h3 (k + 1) (by omega)), if_pos rfl]
    simp only [laws_FnExactPolesText.j0]
    rw [if_neg (by simp), bind_eq (h1 k (by omega)), bind_eq (h4 k (by omega)), if_pos rfl]
theorem cells51 : Tryd.prog.cellsOf 51 = 2 := by kernel_rfl
theorem cells3 : Tryd.prog.cellsOf 3 = 1 := by kernel_rfl
theorem bytes51 : Tryd.prog.bytesOf 51 = 16 := by kernel_rfl
theorem list_of {α : Type} {P : Nat → α → Prop} : ∀ n, (∀ i, i < n → ∃ x, P i x) → ∃ l : List α, l.length = n ∧ ∀ i x, l[i]? = some x → P i x
  | 0, _ => ⟨[], rfl, fun i x h => by simp at h⟩
  | n + 1, h => by
    obtain ⟨l, hl, hP⟩ := list_of n (fun i hi => h i (by omega))
    obtain ⟨x, hx⟩ := h n (by omega)
    refine ⟨l ++ [x], by simp [hl], fun i y hi => ?_⟩
    rcases Nat.lt_or_ge i n with hlt | hge
    · rw [List.getElem?_append_left (by omega)] at hi
      exact hP i y hi
    · rw [List.getElem?_append_right (by omega)] at hi
      obtain rfl : i = n := by
        rcases Nat.eq_or_lt_of_le hge with h | h
        · exact h.symm
        · rw [List.getElem?_eq_none (by simp; omega)] at hi
          cases hi
      rw [hl, Nat.sub_self] at hi
      simp at hi
      exact hi ▸ hx
theorem pair_of {α : Type} {l : List α} (h : l.length = 2) : ∃ a b, l = [a, b] := by
  match l, h with
  | [a, b], _ => exact ⟨a, b, rfl⟩
/-- A slice of pairs of numbers that came in, as a list. -/
theorem open_pairs {H : Type} {enc : TypeId × Value → H} {W : World} {base : Nat} {spare : Nat → Bool} {held : Bool} {a : Option Addr} {len cap : Nat} {d : DataW H} {ps : List MemPlace} {ts : List TypeId} {ds : List (DataW H)} {j : Nat}
    (h : DataW.Trod enc Tryd.prog W base spare held 29 (.slice a len cap) d ps) (hsz : (DataW.weightsEach Tryd.prog ts ds).all (· ≤ reachBytes) = true) (ht : ts[j]? = some 29) (hd : ds[j]? = some d) :
    ∃ l : List S51, l.length = len ∧ Kd.C k51 W a l.length l ∧ l.length ≤ cap ∧ l.length * 16 ≤ 140737488351232 := by
  obtain ⟨fuel, hf⟩ := h
  rcases Go.Deep.open_slice Tryd.underlying29 hf with ⟨hcs, hx⟩ | ⟨a', len', cap', m, n, D, Pl, hcs, _, hlc, hmx, hm, hx, hcell⟩
  · simp [Value.cells] at hcs
    obtain ⟨rfl, rfl, rfl⟩ := hcs
    exact ⟨[], rfl, Kd.C_nil _ _, by simp, by simp⟩
  · simp [Value.cells] at hcs
    obtain ⟨rfl, rfl, rfl⟩ := hcs
    have hlm : len ≤ m := by rw [hm]; split <;> omega
    rw [cells51] at hcell
    have hP : ∀ i, i < len → ∃ x : S51, ∀ (j : Nat) (u : Value), [Value.int .i64 x.f0, Value.int .i64 x.f1][j]? = some u → W.cell? (a'.add (i * 2 + j)) = some u := by
      intro i hi
      obtain ⟨cs', hcs', htr⟩ := hcell i (by omega)
      obtain ⟨y0, y1, n', hx', hlen, h0, h1⟩ := trod_struct2 Tryd.underlying51 htr
      rw [cells51] at hlen
      obtain ⟨_, hcl, hcc⟩ := World.cells?_some hcs'
      obtain ⟨x0, e0, _, w0⟩ := DataW.trod_int Tryd.underlying3 h0
      obtain ⟨x1, e1, _, w1⟩ := DataW.trod_int Tryd.underlying3 h1
      simp only [cells3] at e0 e1
      obtain ⟨c0, c1, rfl⟩ := pair_of hlen
      simp at e0 e1
      subst e0 e1
      refine ⟨⟨x0, x1⟩, fun j u hu => ?_⟩
      have hj : j < 2 := by have := (List.getElem?_eq_some_iff.1 hu).1; simpa using this
      rw [← Go.Deep.add_add, hcc j hj]
      exact hu
    obtain ⟨l, hl, hPl⟩ := list_of len hP
    subst hl
    refine ⟨l, rfl, ⟨rfl, by unfold maxLen at hmx; omega, fun hpos => ⟨a', rfl, fun j p hj => ⟨[.int .i64 p.f0, .int .i64 p.f1], rfl, k51_mk W p, fun i u hu => hPl j p hj i u hu⟩⟩⟩, hlc, ?_⟩
    simp only [Prod.mk.injEq] at hx
    rw [hx.1] at hd
    have z := sized_slice hsz ht hd Tryd.underlying29
    rw [bytes51, List.length_map, List.length_range, List.length_map, List.length_range] at z
    have z2 : (l.length + (m - l.length)) * 16 ≤ 140737488351232 := z
    omega
theorem join (A0 : Option Addr) (cap : Nat) (l : List S51) (W : World) (hc : Kd.C k51 W A0 l.length l) (hcap : l.length ≤ cap) (hl : l.length * 16 ≤ 140737488351232) (hR : TextC.Tab W) :
    Calls Tryd.prog 4 #[.slice A0 l.length cap] W fun e w' => e = .returned (.bool true) ∧ Below W.heap.size W w' := by
  obtain ⟨k, hk⟩ := pure l hl
  exact laws_FnExactPolesText.calls k A0 cap l true W hc hcap hk ⟨hR⟩
end Go.Proofs.YtpmaapalpecjcaaDoor.QTJoin
