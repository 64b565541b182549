/- Plain laws on the texts that FnShadowsDarkOfAll reads and tells. No condition beyond those that each theorem names. -/
import Derived.Test.YtkhhlnpiogfofaaGreatDoorSD5
import Derived.Test.YtkhhlnpiogfofaaGreatDoorSD10
import Derived.Test.YtkhhlnpiogfofaaGreatDoorSD11
import Derived.Test.YtkhhlnpiogfofaaGreatDoorSD12
import Derived.Test.YtkhhlnpiogfofaaGreatDoorSD13
import Derived.Test.YtkhhlnpiogfofaaGreatDoorSD14
import Derived.Test.YtkhhlnpiogfofaaGreatDoorDec
import Derived.Test.YtkhhlnpiogfofaaGreatDoorSDCore
import Derived.Test.YtkhhlnpiogfofaaGreatDoorGiven
import Derived.Lib.Join
import Derived.Lib.SplitLaws
namespace Go.Proofs.YtkhhlnpiogfofaaGreatDoor.SDText
open Go.RowKit Go.Proofs.YtkhhlnpiogfofaaGreatDoor.PFnShadowsDarkOfAll Go.Proofs.YtkhhlnpiogfofaaGreatDoorW.PrintWords Go.Proofs.YtkhhlnpiogfofaaGreatDoorW.PrintLast Go.Proofs.YtkhhlnpiogfofaaGreatDoorW.PrintMore Go.Proofs.YtkhhlnpiogfofaaGreatDoor.Given
open Go.Proofs.YtkhhlnpiogfofaaGreatDoor.SDCore (toList_eq size_len bt_get extract_list split_ev read_ev)
set_option linter.unusedVariables false
set_option linter.unusedSimpArgs false

theorem stepK {α : Type} {g f : Nat → Option α} {r : α} (K0 : Nat) (h : ∀ k, K0 ≤ k → g (k + 1) = f k) (hf : Ev f r) : Ev g r := by
 obtain ⟨K, hK⟩ := hf
 refine ⟨K + K0 + 1, fun k hk => ?_⟩
 obtain ⟨k, rfl⟩ : ∃ m, k = m + 1 := ⟨k - 1, by omega⟩
 rw [h k (by omega), hK k (by omega)]
theorem congrK {α : Type} {g f : Nat → Option α} {r : α} (K0 : Nat) (h : ∀ k, K0 ≤ k → g k = f k) (hf : Ev f r) : Ev g r := by
 obtain ⟨K, hK⟩ := hf
 exact ⟨K + K0, fun k hk => by rw [h k (by omega), hK k (by omega)]⟩

theorem bind_eq {α β : Type} {g : Option α} {a : α} (h : g = some a) (f : α → Option β) : g.bind f = f a := by rw [h]; rfl

theorem wrap_id {x : Int} (h0 : -9223372036854775808 ≤ x) (h1 : x ≤ 9223372036854775807) : wrap64 x = x := by unfold wrap64; omega

theorem in_eq (a b c : Int) : spec_l1In.f a b c = some (decide (b ≤ a ∧ a ≤ c)) := by
 unfold spec_l1In.f
 by_cases h : a ≥ b
 ·rw [if_pos h]; simp [h]
 ·rw [if_neg h]; simp; omega

theorem within_eq (a b c : Int) : impl_within.f a b c = some (decide (b ≤ a ∧ a ≤ c)) := by
 unfold impl_within.f
 by_cases h : a ≥ b
 ·rw [if_pos h]; simp [h]
 ·rw [if_neg h]; simp; omega

theorem mulb {a b A B : Int} (ha : 0 ≤ a) (ha2 : a ≤ A) (hb : 0 ≤ b) (hb2 : b ≤ B) : 0 ≤ a * b ∧ a * b ≤ A * B :=
 ⟨Int.mul_nonneg ha hb, Int.mul_le_mul ha2 hb2 hb (by omega)⟩

theorem pole_spec (a b : Int) : spec_swPole.f a b = some (decide ((1 ≤ a ∧ a ≤ 500) ∧ (1 ≤ b ∧ b ≤ 200))) := by
 simp only [spec_swPole.f, in_eq, Option.bind_some, decide_eq_true_eq]
 by_cases h : 1 ≤ a ∧ a ≤ 500 <;> simp [h]

theorem pole_impl (a b : Int) : impl_isPole.f a b = some (decide ((1 ≤ a ∧ a ≤ 500) ∧ (1 ≤ b ∧ b ≤ 200))) := by
 simp only [impl_isPole.f, impl_isPlace.f, impl_isHigh.f, within_eq, Option.bind_some, decide_eq_true_eq]
 by_cases h : 1 ≤ a ∧ a ≤ 500 <;> simp [h]


/-- What both sides take for a pole at its place. -/
def OkRow (l : List S24) (j : Int) : Prop := ((1 ≤ (rd_T24 l j).f0 ∧ (rd_T24 l j).f0 ≤ 500) ∧ (1 ≤ (rd_T24 l j).f1 ∧ (rd_T24 l j).f1 ≤ 200)) ∧ (0 < j → (rd_T24 l (j - 1)).f0 < (rd_T24 l j).f0)
theorem row_l (n : Nat) : ∀ (l : List S24) (i : Int), 0 ≤ i → (l.length : Int) - i = n → l.length ≤ 1000000000 → ∃ b : Bool, Ev (fun k => spec_swRow.l0 k l l (l.length : Int) i) b ∧ (b = true ↔ ∀ j, i ≤ j → j < l.length → OkRow l j) := by
 induction n with
 | zero =>
  intro l i h0 h1 h2
  refine ⟨true, Ev.step (f := fun _ => some true) (fun k => ?_) (Ev.now _), by simp; intro j _ _; omega⟩
  simp only [spec_swRow.l0]
  rw [if_neg (by omega)]
 | succ n ih =>
  intro l i h0 h1 h2
  obtain ⟨b, hb, hi⟩ := ih l (i + 1) (by omega) (by omega) h2
  have hlt : i < (l.length : Int) := by omega
  by_cases c : (1 ≤ (rd_T24 l i).f0 ∧ (rd_T24 l i).f0 ≤ 500) ∧ (1 ≤ (rd_T24 l i).f1 ∧ (rd_T24 l i).f1 ≤ 200)
  ·by_cases c2 : 0 < i ∧ (rd_T24 l i).f0 ≤ (rd_T24 l (i - 1)).f0
   ·refine ⟨false, Ev.step (f := fun _ => some false) (fun k => ?_) (Ev.now _), ?_⟩
    ·simp only [spec_swRow.l0, pole_spec, Option.bind_some, decide_eq_true_eq]
     rw [if_pos hlt, if_pos h0, if_pos hlt, if_pos c, if_pos c2.1, wrap_id (x := i - 1) (by omega) (by omega), if_pos (by omega), if_pos (by omega), if_pos c2.2]
    ·simp only [Bool.false_eq_true, false_iff]
     intro H
     have := (H i (by omega) hlt).2 c2.1
     omega
   ·refine ⟨b, Ev.step (fun k => ?_) hb, ?_⟩
    ·simp only [spec_swRow.l0, pole_spec, Option.bind_some, decide_eq_true_eq]
     rw [if_pos hlt, if_pos h0, if_pos hlt, if_pos c, wrap_id (x := i + 1) (by omega) (by omega)]
     by_cases c3 : i > 0
     ·rw [if_pos c3, wrap_id (x := i - 1) (by omega) (by omega), if_pos (by omega), if_pos (by omega), if_neg (fun h => c2 ⟨c3, h⟩)]
     ·rw [if_neg c3]
    ·rw [hi]
     constructor
     ·intro H j h3 h4
      by_cases e : j = i
      ·subst e
       exact ⟨c, fun hp => by omega⟩
      ·exact H j (by omega) h4
     ·intro H j h3 h4
      exact H j (by omega) h4
  ·refine ⟨false, Ev.step (f := fun _ => some false) (fun k => ?_) (Ev.now _), ?_⟩
   ·simp only [spec_swRow.l0, pole_spec, Option.bind_some, decide_eq_true_eq]
    rw [if_pos hlt, if_pos h0, if_pos hlt, if_neg c]
   ·simp only [Bool.false_eq_true, false_iff]
    intro H
    exact c (H i (by omega) hlt).1


theorem any_l (n : Nat) : ∀ (l : List S24) (i : Int), 0 ≤ i → (l.length : Int) - i = n → l.length ≤ 1000000000 →
  ∃ b : Bool, Ev (fun k => impl_areAnyPoles.l0 k l l (l.length : Int) i) b ∧ (b = true ↔ (∀ j, i ≤ j → j < l.length → OkRow l j) ∧ (1 ≤ (l.length : Int) ∧ (l.length : Int) ≤ 6)) := by
 induction n with
 | zero =>
  intro l i h0 h1 h2
  refine ⟨decide (1 ≤ (l.length : Int) ∧ (l.length : Int) ≤ 6), Ev.step (f := fun _ => some (decide (1 ≤ (l.length : Int) ∧ (l.length : Int) ≤ 6))) (fun k => ?_) (Ev.now _), ?_⟩
  ·simp only [impl_areAnyPoles.l0, within_eq, Option.bind_some]
   rw [if_neg (by omega)]
  ·rw [decide_eq_true_eq]
   exact ⟨fun h => ⟨fun j _ _ => by omega, h⟩, fun h => h.2⟩
 | succ n ih =>
  intro l i h0 h1 h2
  obtain ⟨b, hb, hi⟩ := ih l (i + 1) (by omega) (by omega) h2
  have hlt : i < (l.length : Int) := by omega
  by_cases c : (1 ≤ (rd_T24 l i).f0 ∧ (rd_T24 l i).f0 ≤ 500) ∧ (1 ≤ (rd_T24 l i).f1 ∧ (rd_T24 l i).f1 ≤ 200)
  ·by_cases c2 : 0 < i ∧ (rd_T24 l i).f0 ≤ (rd_T24 l (i - 1)).f0
   ·refine ⟨false, Ev.step (f := fun _ => some false) (fun k => ?_) (Ev.now _), ?_⟩
    ·simp only [impl_areAnyPoles.l0, pole_impl, Option.bind_some, decide_eq_true_eq]
     rw [if_pos hlt, if_pos h0, if_pos hlt, if_pos c, if_pos c2.1, wrap_id (x := i - 1) (by omega) (by omega), if_pos (by omega), if_pos (by omega), if_pos (show (rd_T24 l (i - 1)).f0 ≥ (rd_T24 l i).f0 from c2.2)]
    ·simp only [Bool.false_eq_true, false_iff]
     intro H
     have := (H.1 i (by omega) hlt).2 c2.1
     omega
   ·refine ⟨b, Ev.step (fun k => ?_) hb, ?_⟩
    ·simp only [impl_areAnyPoles.l0, pole_impl, Option.bind_some, decide_eq_true_eq]
     rw [if_pos hlt, if_pos h0, if_pos hlt, if_pos c, wrap_id (x := i + 1) (by omega) (by omega)]
     by_cases c3 : i > 0
     ·rw [if_pos c3, wrap_id (x := i - 1) (by omega) (by omega), if_pos (by omega), if_pos (by omega), if_neg (fun h => c2 ⟨c3, h⟩)]
     ·rw [if_neg c3]
    ·rw [hi]
     constructor
     ·intro H
      refine ⟨fun j h3 h4 => ?_, H.2⟩
      by_cases e : j = i
      ·subst e
       exact ⟨c, fun hp => by omega⟩
      ·exact H.1 j (by omega) h4
     ·intro H
      exact ⟨fun j h3 h4 => H.1 j (by omega) h4, H.2⟩
  ·refine ⟨false, Ev.step (f := fun _ => some false) (fun k => ?_) (Ev.now _), ?_⟩
   ·simp only [impl_areAnyPoles.l0, pole_impl, Option.bind_some, decide_eq_true_eq]
    rw [if_pos hlt, if_pos h0, if_pos hlt, if_neg c]
   ·simp only [Bool.false_eq_true, false_iff]
    intro H
    exact c (H.1 i (by omega) hlt).1
def RowOk (l : List S24) : Prop := (1 ≤ (l.length : Int) ∧ (l.length : Int) ≤ 6) ∧ ∀ j : Int, 0 ≤ j → j < l.length → OkRow l j
/-- Both sides tell alike whether there are poles of some lamp. -/
theorem row_ev (l : List S24) (h : l.length ≤ 1000000000) : ∃ b : Bool, Ev (fun k => spec_swRow.f k l) b ∧ Ev (fun k => impl_areAnyPoles.f k l) b ∧ (b = true ↔ RowOk l) := by
 obtain ⟨b1, e1, i1⟩ := any_l l.length l 0 (by omega) (by omega) h
 obtain ⟨b2, e2, i2⟩ := row_l l.length l 0 (by omega) (by omega) h
 have i1' : b1 = true ↔ RowOk l := by
  rw [i1]
  exact ⟨fun H => ⟨H.2, fun j hj hj2 => H.1 j hj hj2⟩, fun H => ⟨fun j hj hj2 => H.2 j hj hj2, H.1⟩⟩
 refine ⟨b1, ?_, e1, i1'⟩
 by_cases c2 : 1 ≤ (l.length : Int) ∧ (l.length : Int) ≤ 6
 ·have eb : b2 = b1 := by
   rw [Bool.eq_iff_iff, i2, i1]
   exact ⟨fun H => ⟨H, c2⟩, fun H => H.1⟩
  rw [eb] at e2
  refine congrK 0 (fun k _ => ?_) e2
  simp only [spec_swRow.f, in_eq, Option.bind_some, decide_eq_true_eq]
  rw [if_pos c2]
 ·have eb : b1 = false := by
   rw [← Bool.not_eq_true, i1]
   exact fun H => c2 H.2
  rw [eb]
  refine ⟨0, fun k _ => ?_⟩
  simp only [spec_swRow.f, in_eq, Option.bind_some, decide_eq_true_eq]
  rw [if_neg c2]
theorem row_range (l : List S24) (h : RowOk l) : ∀ p ∈ l, (1 ≤ p.f0 ∧ p.f0 ≤ 500) ∧ (1 ≤ p.f1 ∧ p.f1 ≤ 200) := fun p hp => by
 obtain ⟨j, hj, e⟩ := List.getElem_of_mem hp
 have := (h.2 (j : Int) (by omega) (by omega)).1
 have e2 : rd_T24 l (j : Int) = p := by
  unfold rd_T24
  rw [List.getD_eq_getElem?_getD, Int.toNat_natCast, List.getElem?_eq_getElem hj, e]
  rfl
 rw [e2] at this
 exact this
theorem l1Num_dec (n : Nat) : ∀ k : Nat, n < 10000 → n < k → spec_l1Num.f k (n : Int) = some (Dec.dec n) := by
 induction n using Nat.strongRecOn with
 | _ n ih =>
  intro k hn hk
  obtain ⟨k, rfl⟩ : ∃ m, k = m + 1 := ⟨k - 1, by omega⟩
  simp only [spec_l1Num.f]
  by_cases h : n < 10
  ·rw [if_pos (by omega), Dec.one_num n h, Dec.dec_small h]
  ·have e1 : wrap64 (Int.tdiv (n : Int) 10) = ((n / 10 : Nat) : Int) := by
    rw [Int.tdiv_eq_ediv_of_nonneg (by omega), wrap_id (by omega) (by omega)]
    omega
   have e2 : Int.tmod (n : Int) 10 = ((n % 10 : Nat) : Int) := by
    rw [Int.tmod_eq_emod_of_nonneg (by omega)]
    omega
   rw [if_neg (by omega), e1, ih (n / 10) (by omega) k (by omega) (by omega), e2]
   simp only [Option.bind_some]
   rw [Dec.one_num (n % 10) (by omega)]
   have hs := Dec.dec_le (n / 10) (by omega)
   have hs1 : (⟨#[UInt8.ofNat (48 + n % 10)]⟩ : ByteArray).size = 1 := rfl
   rw [if_pos (by omega), Dec.dec_big h]

/-- The text of a pole, as bytes. -/
def pt (p : S24) : ByteArray := (Dec.dec p.f0.toNat ++ (⟨#[124]⟩ : ByteArray)) ++ Dec.dec p.f1.toNat
def InR (p : S24) : Prop := (1 ≤ p.f0 ∧ p.f0 ≤ 500) ∧ (1 ≤ p.f1 ∧ p.f1 ≤ 200)
theorem num_int (k : Nat) (n : Int) (h0 : 0 ≤ n) (h1 : n < 10000) (hk : 10000 ≤ k) : spec_l1Num.f k n = some (Dec.dec n.toNat) := by
 have := l1Num_dec n.toNat k (by omega) (by omega)
 rw [show ((n.toNat : Nat) : Int) = n by omega] at this
 exact this
theorem text_int (n : Int) (h0 : 0 ≤ n) (h1 : n < 10000) : impl_text.f n = some (Dec.dec n.toNat) := by
 unfold impl_text.f
 rw [if_pos (by omega)]
 congr 1
 unfold Dec.dec Lib.itoa
 rw [if_neg (by omega)]
theorem dec_sz (p : S24) (h : InR p) : (Dec.dec p.f0.toNat).size ≤ 4 ∧ (Dec.dec p.f1.toNat).size ≤ 4 := by
 obtain ⟨h1, h2⟩ := h
 exact ⟨Dec.dec_le _ (by omega), Dec.dec_le _ (by omega)⟩
theorem one124 : (⟨#[124]⟩ : ByteArray).size = 1 := rfl
theorem one44 : (⟨#[44]⟩ : ByteArray).size = 1 := rfl
theorem pt_size (p : S24) (h : InR p) : (pt p).size ≤ 9 := by
 obtain ⟨h1, h2⟩ := dec_sz p h
 unfold pt
 rw [ByteArray.size_append, ByteArray.size_append, one124]
 omega
theorem rdT_get (l : List S24) (i : Int) (h0 : 0 ≤ i) (h1 : i < (l.length : Int)) : rd_T24 l i ∈ l ∧ l.drop i.toNat = rd_T24 l i :: l.drop (i + 1).toNat := by
 have hi : i.toNat < l.length := by omega
 have e : rd_T24 l i = l[i.toNat] := by
  unfold rd_T24
  rw [List.getD_eq_getElem?_getD, List.getElem?_eq_getElem hi]
  rfl
 rw [e]
 refine ⟨List.getElem_mem _, ?_⟩
 rw [List.drop_eq_getElem_cons hi, show (i + 1).toNat = i.toNat + 1 by omega]
/-- What spec.swText lays behind what is there. -/
def glue (first : Bool) : List S24 → List UInt8
 | [] => []
 | p :: r => (if first then [] else [44]) ++ (pt p).data.toList ++ glue false r
theorem spec_text (l : List S24) (hl : l.length ≤ 6) (hr : ∀ p ∈ l, InR p) (n : Nat) : ∀ (acc : ByteArray) (i : Int), 0 ≤ i → (l.length : Int) - i = n → (acc.size : Int) ≤ 10 * i →
  ∃ R : ByteArray, Ev (fun k => spec_swText.l0 k acc l (l.length : Int) i) R ∧ R.data.toList = acc.data.toList ++ glue (decide (i = 0)) (l.drop i.toNat) := by
 induction n with
 | zero =>
  intro acc i h0 h1 h2
  refine ⟨acc, stepK 0 (f := fun _ => some acc) (fun k _ => ?_) (Ev.now _), ?_⟩
  ·simp only [spec_swText.l0]
   rw [if_neg (by omega)]
  ·rw [List.drop_eq_nil_of_le (by omega)]
   simp [glue]
 | succ n ih =>
  intro acc i h0 h1 h2
  have hi : i < (l.length : Int) := by omega
  obtain ⟨hm, hd⟩ := rdT_get l i h0 hi
  have hp := hr _ hm
  obtain ⟨p, hpx⟩ : ∃ p, rd_T24 l i = p := ⟨_, rfl⟩
  rw [hpx] at hp hd
  obtain ⟨s1, s2⟩ := dec_sz p hp
  have n1 : ∀ k, 10000 ≤ k → spec_l1Num.f k p.f0 = some (Dec.dec p.f0.toNat) := fun k hk => num_int k p.f0 (by have := hp.1.1; omega) (by have := hp.1.2; omega) hk
  have n2 : ∀ k, 10000 ≤ k → spec_l1Num.f k p.f1 = some (Dec.dec p.f1.toNat) := fun k hk => num_int k p.f1 (by have := hp.2.1; omega) (by have := hp.2.2; omega) hk
  by_cases hz : i > 0
  ·obtain ⟨R, e1, e2⟩ := ih ((acc ++ (⟨#[44]⟩ : ByteArray)) ++ pt p) (i + 1) (by omega) (by omega) (by
    have := pt_size p hp
    rw [ByteArray.size_append, ByteArray.size_append, one44]
    omega)
   refine ⟨R, stepK 10000 (fun k hk => ?_) e1, ?_⟩
   ·simp only [spec_swText.l0]
    rw [if_pos hi, if_pos h0, if_pos hi, if_pos hz, if_pos (by omega), hpx, bind_eq (n1 k hk), if_pos (by omega), bind_eq (n2 k hk),
     if_pos (by rw [ByteArray.size_append, one124]; omega), if_pos (by rw [ByteArray.size_append, ByteArray.size_append, ByteArray.size_append, one124, one44]; omega), wrap_id (x := i + 1) (by omega) (by omega)]
    rfl
   ·rw [e2, hd]
    have d1 : decide (i = 0) = false := decide_eq_false (by omega)
    have d2 : decide (i + 1 = 0) = false := decide_eq_false (by omega)
    rw [d1, d2]
    simp [glue]
  ·have hi0 : i = 0 := by omega
   obtain ⟨R, e1, e2⟩ := ih (acc ++ pt p) (i + 1) (by omega) (by omega) (by
    have := pt_size p hp
    rw [ByteArray.size_append]
    omega)
   refine ⟨R, stepK 10000 (fun k hk => ?_) e1, ?_⟩
   ·simp only [spec_swText.l0]
    rw [if_pos hi, if_pos h0, if_pos hi, if_neg hz, hpx, bind_eq (n1 k hk), if_pos (by omega), bind_eq (n2 k hk),
     if_pos (by rw [ByteArray.size_append, one124]; omega), if_pos (by rw [ByteArray.size_append, ByteArray.size_append, one124]; omega), wrap_id (x := i + 1) (by omega) (by omega)]
    rfl
   ·rw [e2, hd]
    have d1 : decide (i = 0) = true := decide_eq_true hi0
    have d2 : decide (i + 1 = 0) = false := decide_eq_false (by omega)
    rw [d1, d2]
    simp [glue]
theorem glue_join (l : List S24) : glue true l = Lib.join (l.map fun p => (pt p).data.toList) [44] := by
 have key : ∀ r : List S24, glue false r = Lib.joinTail [44] (r.map fun p => (pt p).data.toList) := fun r => by
  induction r with
  | nil => rfl
  | cons p r ih =>
   simp only [glue, Lib.joinTail, List.map_cons, List.flatten_cons] at ih ⊢
   rw [ih]
   simp
 cases l with
 | nil => rfl
 | cons p r =>
  rw [List.map_cons, Lib.join_cons, ← key]
  simp [glue]
theorem impl_text_l (l : List S24) (hl : l.length ≤ 6) (hr : ∀ p ∈ l, InR p) (n : Nat) : ∀ (acc : List ByteArray) (i : Int), 0 ≤ i → (l.length : Int) - i = n → (acc.length : Int) ≤ i →
  ∀ R : ByteArray, lib_Join.f (acc ++ (l.drop i.toNat).map pt) (⟨#[44]⟩ : ByteArray) = some R → Ev (fun k => impl_PolesText.l0 k acc l (l.length : Int) i) (R, true) := by
 induction n with
 | zero =>
  intro acc i h0 h1 h2 R hR
  rw [List.drop_eq_nil_of_le (by omega), List.map_nil, List.append_nil] at hR
  refine stepK 0 (f := fun _ => some (R, true)) (fun k _ => ?_) (Ev.now _)
  simp only [impl_PolesText.l0]
  rw [if_neg (by omega), bind_eq hR]
 | succ n ih =>
  intro acc i h0 h1 h2 R hR
  have hi : i < (l.length : Int) := by omega
  obtain ⟨hm, hd⟩ := rdT_get l i h0 hi
  have hp := hr _ hm
  obtain ⟨p, hpx⟩ : ∃ p, rd_T24 l i = p := ⟨_, rfl⟩
  rw [hpx] at hp hd
  obtain ⟨s1, s2⟩ := dec_sz p hp
  have n1 : impl_text.f p.f0 = some (Dec.dec p.f0.toNat) := text_int p.f0 (by have := hp.1.1; omega) (by have := hp.1.2; omega)
  have n2 : impl_text.f p.f1 = some (Dec.dec p.f1.toNat) := text_int p.f1 (by have := hp.2.1; omega) (by have := hp.2.2; omega)
  rw [hd, List.map_cons] at hR
  refine stepK 0 (fun k _ => ?_) (ih (acc ++ [pt p]) (i + 1) (by omega) (by omega) (by rw [List.length_append, List.length_singleton]; omega) R (by rw [List.append_assoc]; exact hR))
  simp only [impl_PolesText.l0]
  rw [if_pos hi, if_pos h0, if_pos hi, hpx, bind_eq n1, if_pos (by omega), bind_eq n2, if_pos (by rw [ByteArray.size_append, one124]; omega), if_pos (by omega), wrap_id (x := i + 1) (by omega) (by omega)]
  rfl
theorem lens_le (l : List S24) (hr : ∀ p ∈ l, InR p) : Lib.lens (l.map fun p => (pt p).data.toList) ≤ 9 * l.length := by
 induction l with
 | nil => simp [Lib.lens]
 | cons p r ih =>
  have h1 := ih (fun q hq => hr q (List.mem_cons_of_mem _ hq))
  have h2 := pt_size p (hr p (by simp))
  have h3 : (pt p).size = (pt p).data.toList.length := by rw [Array.length_toList]; rfl
  simp only [Lib.lens, List.map_cons, List.sum_cons, List.length_cons] at h1 ⊢
  omega
theorem texts (l : List S24) (hl : l.length ≤ 1000000000) : ∃ R : ByteArray × Bool, Ev (fun k => spec_PolesText.f k l) R ∧ Ev (fun k => impl_PolesText.f k l) R := by
 obtain ⟨b, ⟨K1, e1⟩, ⟨K2, e2⟩, hb⟩ := row_ev l hl
 cases b with
 | false =>
  refine ⟨((⟨#[]⟩ : ByteArray), false), ⟨K1, fun k hk => ?_⟩, ⟨K2, fun k hk => ?_⟩⟩
  ·simp only [spec_PolesText.f]
   rw [bind_eq (e1 k hk)]
   rfl
  ·simp only [impl_PolesText.f]
   rw [bind_eq (e2 k hk)]
   rfl
 | true =>
  have hok := hb.1 rfl
  have hr : ∀ p ∈ l, InR p := row_range l hok
  have h6 : l.length ≤ 6 := by have := hok.1.2; omega
  obtain ⟨R, ⟨K3, f1⟩, hR⟩ := spec_text l h6 hr l.length (⟨#[]⟩ : ByteArray) 0 (by omega) (by omega) (by show ((0 : Nat) : Int) ≤ _; omega)
  have hjl : (Lib.join (l.map fun p => (pt p).data.toList) [44]).length ≤ 100 := by
   cases hl0 : l with
   | nil => simp [Lib.join]
   | cons p r =>
    have := lens_le (p :: r) (by rw [← hl0]; exact hr)
    rw [List.map_cons, Lib.join_length]
    rw [hl0] at h6
    simp only [List.length_map, List.length_cons, List.length_nil, List.map_cons] at this h6 ⊢
    omega
  have hj : lib_Join.f ([] ++ (l.drop (0 : Int).toNat).map pt) (⟨#[44]⟩ : ByteArray) = some R := by
   have e0 : ([] ++ (l.drop (0 : Int).toNat).map pt) = l.map pt := by simp
   rw [e0]
   unfold lib_Join.f
   have e3 : ((l.map pt).map (·.data.toList)) = l.map fun p => (pt p).data.toList := by rw [List.map_map]; rfl
   have e4 : (⟨#[44]⟩ : ByteArray).data.toList = [44] := rfl
   rw [e3, e4, if_pos ⟨by rw [List.length_map]; omega, by omega⟩]
   congr 1
   apply ByteArray.ext
   apply Array.toList_inj.1
   rw [hR]
   have d0 : decide ((0 : Int) = 0) = true := rfl
   have d1 : l.drop (0 : Int).toNat = l := by simp
   rw [d0, d1, glue_join]
   simp
  obtain ⟨K4, f2⟩ := impl_text_l l h6 hr l.length [] 0 (by omega) (by omega) (by simp) R hj
  refine ⟨(R, true), ⟨K1 + K3, fun k hk => ?_⟩, ⟨K2 + K4, fun k hk => ?_⟩⟩
  ·simp only [spec_PolesText.f]
   rw [bind_eq (e1 k (by omega)), if_pos rfl]
   have : spec_swText.f k l = some R := f1 k (by omega)
   rw [this]
   rfl
  ·simp only [impl_PolesText.f]
   rw [bind_eq (e2 k (by omega)), if_pos rfl]
   exact f2 k (by omega)
/-- The text of a pole, as a list. -/
def D (m n : Nat) : List UInt8 := Lib.decDigits m ++ 124 :: Lib.decDigits n
theorem not_dec (c : UInt8) (h : ¬ Dig.isD c) (n : Nat) : c ∉ Lib.decDigits n := fun hc => h (Dig.dec_digits n c hc)
theorem n124 : ¬ Dig.isD 124 := fun h => absurd h.2 (by decide)
theorem chop_D (m n : Nat) : Dig.chop 124 [] (D m n) = [Lib.decDigits m, Lib.decDigits n] := by
 unfold D
 rw [Dig.chop_app 124 _ _ [] (not_dec 124 n124 m), Dig.chop_no 124 _ [] (not_dec 124 n124 n)]
 simp
def bs (l : List UInt8) : ByteArray := ⟨l.toArray⟩
theorem bs_list (l : List UInt8) : (bs l).data.toList = l := by unfold bs; simp
theorem num_dec (n : Nat) (h : n < 1000000) (s : ByteArray) (e : s.data.toList = Lib.decDigits n) : Num.num s = ((n : Int), true) := by
 unfold Num.num
 rw [e, Dig.atoi_dec n (by omega)]
 simp only []
 rw [Dig.itoa_dec, toList_eq, toList_eq, e]
 have : (⟨(Lib.decDigits n).toArray⟩ : ByteArray).data.toList = Lib.decDigits n := by simp
 rw [this, beq_self_eq_true]
theorem num_true (s : ByteArray) (h : (Num.num s).2 = true) : s.data.toList = Lib.itoa (Num.num s).1 := by
 unfold Num.num at h ⊢
 rcases ha : Lib.atoiAll s.data.toList with v | _ | _
 ·rw [ha] at h
  simp only [] at h ⊢
  have := beq_iff_eq.1 h
  rw [toList_eq, toList_eq] at this
  rw [← this]
 ·rw [ha] at h; cases h
 ·rw [ha] at h; cases h
theorem num_nil (s : ByteArray) (h : s.data.toList = []) : (Num.num s).2 = false := by
 unfold Num.num
 rw [h]
 rfl
theorem itoa_nat (v : Int) (h : 0 ≤ v) : Lib.itoa v = Lib.decDigits v.toNat := by
 obtain ⟨n, rfl⟩ : ∃ n : Nat, v = n := ⟨v.toNat, by omega⟩
 rw [Dig.itoa_dec, Int.toNat_natCast]
theorem two_of {R : List ByteArray} (h : R.length = 2) : ∃ p q, R = [p, q] := by
 match R, h with
 | [p, q], _ => exact ⟨p, q, rfl⟩
/-- What a side tells of a piece, and of which pieces it tells a pole. -/
def Piece (x : ByteArray) (o : Option (Int × Int)) : Prop := (∀ a b : Int, o = some (a, b) → 0 ≤ a → 0 ≤ b → x.data.toList = D a.toNat b.toNat) ∧ (∀ m n : Nat, m < 1000000 → n < 1000000 → x.data.toList = D m n → o = some ((m : Int), (n : Int)))
def SPiece (x : ByteArray) (o : Option (Int × Int)) : Prop := ∃ R : List ByteArray, (∀ k, 1048576 < k → spec_l1Split.f k x 124 = some R) ∧ ((o = none ∧ R.length ≠ 2) ∨ ∃ u v a b, R = [u, v] ∧ (∀ k, 10 ≤ k → spec_l1Read.f k u = some a) ∧ (∀ k, 10 ≤ k → spec_l1Read.f k v = some b) ∧ o = some (a, b)) ∧ Piece x o
theorem spiece (x : ByteArray) : ∃ o, x.size ≤ 1048576 → SPiece x o := by
 by_cases hx : x.size ≤ 1048576
 ·obtain ⟨R, hR, _, hf⟩ := split_ev x 124 hx
  by_cases h2 : R.length = 2
  ·obtain ⟨u, v, rfl⟩ := two_of h2
   simp only [List.map_cons, List.map_nil] at hR
   obtain ⟨a, ha, ha0, ha1, ha2, ha3⟩ := read_ev u
   obtain ⟨b, hb, hb0, hb1, hb2, hb3⟩ := read_ev v
   refine ⟨some (a, b), fun _ => ⟨[u, v], hf, .inr ⟨u, v, a, b, rfl, ha, hb, rfl⟩, fun a' b' e h3 h4 => ?_, fun m n hm hn e => ?_⟩⟩
   ·simp only [Option.some.injEq, Prod.mk.injEq] at e
    obtain ⟨rfl, rfl⟩ := e
    have e1 := ha3 h3
    have e2 := hb3 h4
    rcases Dig.parts 124 x.data.toList with hno | ⟨p, r, hp, e⟩
    ·rw [Dig.chop_no 124 _ [] hno] at hR
     simp at hR
    ·rw [e, Dig.chop_app 124 p r [] hp] at hR
     rcases Dig.parts 124 r with hno2 | ⟨p2, r2, hp2, e3⟩
     ·rw [Dig.chop_no 124 _ [] hno2] at hR
      simp only [List.nil_append, List.cons.injEq, and_true] at hR
      rw [e]
      unfold D
      rw [← hR.1, ← hR.2, e1, e2]
     ·rw [e3, Dig.chop_app 124 p2 r2 [] hp2] at hR
      obtain ⟨h5, t5, e5, _⟩ := Dig.chop_acc 124 r2 []
      rw [e5] at hR
      simp at hR
   ·rw [e, chop_D] at hR
    simp only [List.cons.injEq, and_true] at hR
    rw [ha2 m hm hR.1, hb2 n hn hR.2]
  ·refine ⟨none, fun _ => ⟨R, hf, .inl ⟨rfl, h2⟩, (fun a b e => by cases e), fun m n hm hn e => ?_⟩⟩
   exfalso
   rw [e, chop_D] at hR
   have := congrArg List.length hR
   simp at this
   exact h2 this
 ·exact ⟨none, fun h => absurd h hx⟩
/-- What the program tells of a piece. -/
def ip (x : ByteArray) : Option (Int × Int) := if (Num.num (bs (Lib.cut x.data.toList [124]).1)).2 = true then (if (Num.num (bs (Lib.cut x.data.toList [124]).2.1)).2 = true then some ((Num.num (bs (Lib.cut x.data.toList [124]).1)).1, (Num.num (bs (Lib.cut x.data.toList [124]).2.1)).1) else none) else none
theorem ipiece (x : ByteArray) : Piece x (ip x) := by
 refine ⟨fun a b e h3 h4 => ?_, fun m n hm hn e => ?_⟩
 ·unfold ip at e
  by_cases o1 : (Num.num (bs (Lib.cut x.data.toList [124]).1)).2 = true
  ·by_cases o2 : (Num.num (bs (Lib.cut x.data.toList [124]).2.1)).2 = true
   ·rw [if_pos o1, if_pos o2] at e
    simp only [Option.some.injEq, Prod.mk.injEq] at e
    obtain ⟨e1, e2⟩ := e
    have f1 := num_true _ o1
    have f2 := num_true _ o2
    rw [e1, itoa_nat a h3, bs_list] at f1
    rw [e2, itoa_nat b h4, bs_list] at f2
    rcases Dig.parts 124 x.data.toList with hno | ⟨p, r, hp, e⟩
    ·rw [Dig.cut_no 124 _ hno] at o2
     rw [num_nil _ (bs_list [])] at o2
     cases o2
    ·rw [e, Dig.cut_app 124 p r hp] at f1 f2
     simp only [] at f1 f2
     rw [e]
     unfold D
     rw [← f1, ← f2]
   ·rw [if_pos o1, if_neg o2] at e; cases e
  ·rw [if_neg o1] at e; cases e
 ·unfold ip
  rw [e]
  unfold D
  rw [Dig.cut_app 124 _ _ (not_dec 124 n124 m)]
  simp only []
  rw [num_dec m hm (bs (Lib.decDigits m)) (bs_list _), num_dec n hn (bs (Lib.decDigits n)) (bs_list _), if_pos rfl, if_pos rfl]
/-- The poles of all pieces, if a side tells each. -/
def run (f : ByteArray → Option (Int × Int)) : List ByteArray → List S24 → Option (List S24)
 | [], L => some L
 | x :: r, L => match f x with
  | none => none
  | some p => run f r (L ++ [⟨p.1, p.2⟩])
theorem run_pre (f : ByteArray → Option (Int × Int)) (xs : List ByteArray) : ∀ L L', run f xs L = some L' → ∃ t, L' = L ++ t ∧ t.length = xs.length := by
 induction xs with
 | nil => intro L L' h; simp only [run, Option.some.injEq] at h; exact ⟨[], by simp [h], rfl⟩
 | cons x r ih =>
  intro L L' h
  simp only [run] at h
  cases hf : f x with
  | none => rw [hf] at h; cases h
  | some p =>
   rw [hf] at h
   obtain ⟨t, e, hl⟩ := ih _ _ h
   exact ⟨⟨p.1, p.2⟩ :: t, by rw [e]; simp, by simp [hl]⟩
theorem run_agree {f g : ByteArray → Option (Int × Int)} (xs : List ByteArray) : ∀ L L', (∀ x ∈ xs, Piece x (f x) ∧ Piece x (g x)) → run f xs L = some L' → (∀ p ∈ L', (1 ≤ p.f0 ∧ p.f0 ≤ 500) ∧ (1 ≤ p.f1 ∧ p.f1 ≤ 200)) → run g xs L = some L' ∧ ∀ x ∈ xs, x.size ≤ 7 := by
 induction xs with
 | nil => intro L L' _ h _; exact ⟨h, by simp⟩
 | cons x r ih =>
  intro L L' hP h hr
  simp only [run] at h ⊢
  cases hf : f x with
  | none => rw [hf] at h; cases h
  | some p =>
   rw [hf] at h
   simp only [] at h
   obtain ⟨t, e, _⟩ := run_pre f r _ _ h
   have hp := hr ⟨p.1, p.2⟩ (by rw [e]; simp)
   simp only [] at hp
   have hD := (hP x (by simp)).1.1 p.1 p.2 hf (by omega) (by omega)
   have hg := (hP x (by simp)).2.2 p.1.toNat p.2.toNat (by omega) (by omega) hD
   obtain ⟨i1, i2⟩ := ih _ _ (fun y hy => hP y (List.mem_cons_of_mem _ hy)) h hr
   have e1 : ((p.1.toNat : Nat) : Int) = p.1 := by omega
   have e2 : ((p.2.toNat : Nat) : Int) = p.2 := by omega
   rw [hg]
   simp only [e1, e2]
   refine ⟨i1, fun y hy => ?_⟩
   rcases List.mem_cons.1 hy with h1 | h1
   ·rw [h1, size_len, hD]
    unfold D
    have l1 : (Lib.decDigits p.1.toNat).length ≤ 3 := by
     rw [Lib.decDigits_length]
     exact Dec.nDigits_le _ 2 (by have : (10 : Nat) ^ (2 + 1) = 1000 := (by decide); omega)
    have l2 : (Lib.decDigits p.2.toNat).length ≤ 3 := by
     rw [Lib.decDigits_length]
     exact Dec.nDigits_le _ 2 (by have : (10 : Nat) ^ (2 + 1) = 1000 := (by decide); omega)
    simp only [List.length_append, List.length_cons]
    omega
   ·exact i2 y h1
def Res (o : Option (List S24)) (R : List S24 × Bool) : Prop := (∀ L, o = some L → RowOk L → R = (L, true)) ∧ ((∀ L, o = some L → ¬ RowOk L) → R = ([], false))
theorem res_end (L : List S24) (b : Bool) (hb : b = true ↔ RowOk L) : Res (some L) (if b = true then (L, true) else ([], false)) := by
 refine ⟨fun L' e h => ?_, fun h => ?_⟩
 ·obtain rfl := Option.some.inj e
  rw [if_pos (hb.2 h)]
 ·rw [if_neg (fun e => h L rfl (hb.1 e))]
theorem rdOf_get (all : List ByteArray) (i : Int) (h0 : 0 ≤ i) (h1 : i < (all.length : Int)) : rdOf ByteArray.empty all i ∈ all ∧ all.drop i.toNat = rdOf ByteArray.empty all i :: all.drop (i + 1).toNat := by
 have hi : i.toNat < all.length := by omega
 have e : rdOf ByteArray.empty all i = all[i.toNat] := by
  unfold rdOf
  rw [List.getD_eq_getElem?_getD, List.getElem?_eq_getElem hi]
  rfl
 rw [e]
 refine ⟨List.getElem_mem _, ?_⟩
 rw [List.drop_eq_getElem_cons hi, show (i + 1).toNat = i.toNat + 1 by omega]
theorem spec_loop {sp : ByteArray → Option (Int × Int)} (hsp : ∀ x, x.size ≤ 1048576 → SPiece x (sp x)) (all : List ByteArray) (hall : ∀ x ∈ all, x.size ≤ 1048576) (hal : all.length ≤ 4000000) (n : Nat) : ∀ (L : List S24) (i : Int), 0 ≤ i → (all.length : Int) - i = n → L.length + n ≤ 4000000 →
  ∃ R : List S24 × Bool, Ev (fun k => spec_swParse.l0 k L all (all.length : Int) i) R ∧ Res (run sp (all.drop i.toNat) L) R := by
 induction n with
 | zero =>
  intro L i h0 h1 h2
  obtain ⟨b, ⟨K, e1⟩, _, hb⟩ := row_ev L (by omega)
  have hd : all.drop i.toNat = [] := List.drop_eq_nil_of_le (by omega)
  refine ⟨_, ?_, by rw [hd]; exact res_end L b hb⟩
  refine stepK K (f := fun _ => some (if b = true then (L, true) else ([], false))) (fun k hk => ?_) (Ev.now _)
  simp only [spec_swParse.l0]
  rw [if_neg (by omega), bind_eq (e1 k hk)]
  cases b <;> rfl
 | succ n ih =>
  intro L i h0 h1 h2
  have hi : i < (all.length : Int) := by omega
  obtain ⟨hm, hd⟩ := rdOf_get all i h0 hi
  obtain ⟨R, hR, hc, hp⟩ := hsp _ (hall _ hm)
  rw [hd]
  simp only [run]
  rcases hc with ⟨ho, hl⟩ | ⟨u, v, a, b, rfl, hu, hv, ho⟩
  ·rw [ho]
   refine ⟨([], false), stepK 1048577 (f := fun _ => some ([], false)) (fun k hk => ?_) (Ev.now _), ⟨(fun L e => by cases e), fun _ => rfl⟩⟩
   simp only [spec_swParse.l0]
   rw [if_pos hi, if_pos h0, if_pos hi, bind_eq (hR k (by omega)), if_neg (by omega)]
  ·rw [ho]
   obtain ⟨R', e1, e2⟩ := ih (L ++ [(⟨a, b⟩ : S24)]) (i + 1) (by omega) (by omega) (by rw [List.length_append, List.length_singleton]; omega)
   refine ⟨R', stepK 1048577 (fun k hk => ?_) e1, e2⟩
   have r0 : rdOf ByteArray.empty [u, v] 0 = u := rfl
   have r1 : rdOf ByteArray.empty [u, v] 1 = v := rfl
   simp only [spec_swParse.l0]
   rw [if_pos hi, if_pos h0, if_pos hi, bind_eq (hR k (by omega)), if_pos (by simp), if_pos (by simp), r0, bind_eq (hu k (by omega)), if_pos (by simp), r1, bind_eq (hv k (by omega)), if_pos (by omega), wrap_id (x := i + 1) (by omega) (by omega)]
theorem cut_le (c : UInt8) (l : List UInt8) : (Lib.cut l [c]).1.length ≤ l.length ∧ (Lib.cut l [c]).2.1.length ≤ l.length := by
 rcases Dig.parts c l with h | ⟨a, r, ha, rfl⟩
 ·rw [Dig.cut_no c l h]; simp
 ·rw [Dig.cut_app c a r ha]
  simp only [List.length_append, List.length_cons]
  omega
theorem impl_loop (all : List ByteArray) (hall : ∀ x ∈ all, x.size ≤ 1048576) (hal : all.length ≤ 4000000) (n : Nat) : ∀ (L : List S24) (i : Int), 0 ≤ i → (all.length : Int) - i = n → L.length + n ≤ 4000000 →
  ∃ R : List S24 × Bool, Ev (fun k => impl_ParsePoles.l0 k L all (all.length : Int) i) R ∧ Res (run ip (all.drop i.toNat) L) R := by
 induction n with
 | zero =>
  intro L i h0 h1 h2
  obtain ⟨b, _, ⟨K, e1⟩, hb⟩ := row_ev L (by omega)
  have hd : all.drop i.toNat = [] := List.drop_eq_nil_of_le (by omega)
  refine ⟨_, ?_, by rw [hd]; exact res_end L b hb⟩
  refine stepK K (f := fun _ => some (if b = true then (L, true) else ([], false))) (fun k hk => ?_) (Ev.now _)
  simp only [impl_ParsePoles.l0]
  rw [if_neg (by omega), bind_eq (e1 k hk)]
  cases b <;> rfl
 | succ n ih =>
  intro L i h0 h1 h2
  have hi : i < (all.length : Int) := by omega
  obtain ⟨hm, hd⟩ := rdOf_get all i h0 hi
  have hs := hall _ hm
  obtain ⟨l1, l2⟩ := cut_le 124 (rdOf ByteArray.empty all i).data.toList
  rw [← size_len] at l1 l2
  rw [hd]
  simp only [run]
  obtain ⟨x, hx⟩ : ∃ x, rdOf ByteArray.empty all i = x := ⟨_, rfl⟩
  rw [hx] at hs l1 l2 ⊢
  have c1 : lib_Cut.f x (⟨#[124]⟩ : ByteArray) = some (bs (Lib.cut x.data.toList [124]).1, bs (Lib.cut x.data.toList [124]).2.1, (Lib.cut x.data.toList [124]).2.2) := by
   unfold lib_Cut.f
   rw [if_pos (by omega)]
   rfl
  have c2 : impl_number.f (bs (Lib.cut x.data.toList [124]).1) = some (Num.num (bs (Lib.cut x.data.toList [124]).1)) := by
   unfold impl_number.f
   rw [if_pos (by rw [size_len, bs_list]; omega)]
  have c3 : impl_number.f (bs (Lib.cut x.data.toList [124]).2.1) = some (Num.num (bs (Lib.cut x.data.toList [124]).2.1)) := by
   unfold impl_number.f
   rw [if_pos (by rw [size_len, bs_list]; omega)]
  have comp : ∀ k, impl_ParsePoles.l0 (k + 1) L all (all.length : Int) i = match ip x with
    | none => some ([], false)
    | some p => impl_ParsePoles.l0 k (L ++ [(⟨p.1, p.2⟩ : S24)]) all (all.length : Int) (i + 1) := fun k => by
   simp only [impl_ParsePoles.l0]
   rw [if_pos hi, if_pos h0, if_pos hi, hx, bind_eq c1]
   simp only []
   rw [bind_eq c2, bind_eq c3]
   unfold ip
   by_cases o1 : (Num.num (bs (Lib.cut x.data.toList [124]).1)).2 = true
   ·by_cases o2 : (Num.num (bs (Lib.cut x.data.toList [124]).2.1)).2 = true
    ·rw [if_pos o1, if_pos o2, if_pos (by omega), if_pos o1, if_pos o2, wrap_id (x := i + 1) (by omega) (by omega)]
    ·rw [if_pos o1, if_neg o2, if_pos o1, if_neg o2]
   ·rw [if_neg o1, if_neg o1]
  cases hf : ip x with
  | none =>
   refine ⟨([], false), stepK 0 (f := fun _ => some ([], false)) (fun k hk => ?_) (Ev.now _), ⟨(fun L e => by cases e), fun _ => rfl⟩⟩
   rw [comp k, hf]
  | some p =>
   obtain ⟨R', e1, e2⟩ := ih (L ++ [(⟨p.1, p.2⟩ : S24)]) (i + 1) (by omega) (by omega) (by rw [List.length_append, List.length_singleton]; omega)
   refine ⟨R', stepK 0 (fun k hk => ?_) e1, e2⟩
   rw [comp k, hf]

theorem chop_sum (c : UInt8) (l : List UInt8) : ∀ acc, ((Dig.chop c acc l).map List.length).sum + (Dig.chop c acc l).length = acc.length + l.length + 1 := by
 induction l with
 | nil => intro acc; simp [Dig.chop]
 | cons b r ih =>
  intro acc
  simp only [Dig.chop]
  by_cases h : b = c
  ·rw [if_pos h]
   have := ih []
   simp only [List.map_cons, List.sum_cons, List.length_cons, List.length_nil] at this ⊢
   omega
  ·rw [if_neg h]
   have := ih (acc ++ [b])
   simp only [List.length_append, List.length_cons, List.length_nil] at this ⊢
   omega
theorem chop_le (c : UInt8) (l : List UInt8) : ∀ acc, ∀ p ∈ Dig.chop c acc l, p.length ≤ acc.length + l.length := by
 induction l with
 | nil => intro acc p hp; simp [Dig.chop] at hp; rw [hp]; omega
 | cons b r ih =>
  intro acc p hp
  simp only [Dig.chop] at hp
  by_cases h : b = c
  ·rw [if_pos h] at hp
   rcases List.mem_cons.1 hp with h1 | h1
   ·rw [h1]; omega
   ·have := ih [] p h1
    simp only [List.length_nil, List.length_cons] at this ⊢
    omega
  ·rw [if_neg h] at hp
   have := ih (acc ++ [b]) p hp
   simp only [List.length_append, List.length_cons, List.length_nil] at this ⊢
   omega
theorem sum_le (xs : List ByteArray) (h : ∀ x ∈ xs, x.size ≤ 7) : ((xs.map (·.data.toList)).map List.length).sum ≤ 7 * xs.length := by
 induction xs with
 | nil => simp
 | cons x r ih =>
  have h1 := ih (fun y hy => h y (List.mem_cons_of_mem _ hy))
  have h2 := h x (by simp)
  rw [size_len] at h2
  simp only [List.map_cons, List.sum_cons, List.length_cons]
  omega
theorem both (s : ByteArray) (hs : s.size ≤ 1048576) : ∃ R : List S24 × Bool, R.1.length ≤ 4000000 ∧ Ev (fun k => spec_ParsePoles.f k s) R ∧ Ev (fun k => impl_ParsePoles.f k s) R := by
 obtain ⟨sp, hsp⟩ := Classical.axiomOfChoice spiece
 obtain ⟨P, hP, hPl, hf⟩ := split_ev s 44 hs
 have hf44 : ∀ k, 1048576 < k → spec_l1Split.f k s 44 = some P := hf
 have hall : ∀ x ∈ P, x.size ≤ 1048576 := fun x hx => by
  have h1 : x.data.toList ∈ Dig.chop 44 [] s.data.toList := by rw [← hP]; exact List.mem_map_of_mem hx
  have h2 := chop_le 44 s.data.toList [] _ h1
  rw [size_len]
  rw [← size_len s] at h2
  simp only [List.length_nil] at h2
  omega
 have hi : lib_Split.f s (⟨#[44]⟩ : ByteArray) = some P := by
  unfold lib_Split.f
  rw [if_pos ⟨by omega, by decide⟩]
  congr 1
  have h1 := Lib.splitB_data (⟨#[44]⟩ : ByteArray) 0 (Lib.countB s (⟨#[44]⟩ : ByteArray)) s
  have h2 : Lib.splitK (⟨#[44]⟩ : ByteArray).data.toList 0 (Lib.countB s (⟨#[44]⟩ : ByteArray)) s.data.toList = Dig.chop 44 [] s.data.toList := Dig.splitK_chop 44 s.data.toList.length s.data.toList (Nat.le_refl _)
  rw [h2, ← hP] at h1
  exact (List.map_inj_right (fun x y h => by
   apply ByteArray.ext; exact Array.toList_inj.1 h)).1 h1
 obtain ⟨Rs, ⟨K1, es⟩, rs⟩ := spec_loop hsp P hall (by omega) P.length [] 0 (by omega) (by omega) (by simp; omega)
 obtain ⟨Ri, ⟨K2, ei⟩, ri⟩ := impl_loop P hall (by omega) P.length [] 0 (by omega) (by omega) (by simp; omega)
 have hpc : ∀ x ∈ P, Piece x (ip x) ∧ Piece x (sp x) := fun x hx => ⟨ipiece x, let ⟨_, _, _, h⟩ := hsp x (hall x hx); h⟩
 have hpc2 : ∀ x ∈ P, Piece x (sp x) ∧ Piece x (ip x) := fun x hx => ⟨(hpc x hx).2, (hpc x hx).1⟩
 have simpl : ∀ k, spec_ParsePoles.f k s = spec_swParse.f k s := fun k => by
  simp only [spec_ParsePoles.f]
  cases spec_swParse.f k s <;> rfl
 have small : ¬ s.size > 50 → ∀ k, 1048576 + K1 < k → spec_ParsePoles.f k s = some Rs := fun h50 k hk => by
  rw [simpl]
  simp only [spec_swParse.f]
  rw [if_neg (by omega), bind_eq (hf44 k (by omega))]
  exact es k (by omega)
 have implr : ∀ k, K2 ≤ k → impl_ParsePoles.f k s = some Ri := fun k hk => by
  simp only [impl_ParsePoles.f]
  rw [bind_eq hi]
  exact ei k hk
 by_cases hA : ∃ L, run ip P [] = some L ∧ RowOk L
 ·obtain ⟨L, hL, hok⟩ := hA
  obtain ⟨h1, h2⟩ := run_agree P [] L hpc hL (row_range L hok)
  have e1 := rs.1 L h1 hok
  have e2 := ri.1 L hL hok
  obtain ⟨t, ht, htl⟩ := run_pre ip P [] L hL
  have h3 := sum_le P h2
  have h4 := chop_sum 44 s.data.toList []
  rw [← hP] at h4
  simp only [List.length_map, List.length_nil] at h4
  rw [← size_len s] at h4
  have h5 := hok.1
  rw [ht] at h5
  simp only [List.nil_append] at h5
  refine ⟨(L, true), by rw [ht]; simp only [List.nil_append]; omega, ⟨1048577 + K1, fun k hk => ?_⟩, ⟨K2, fun k hk => ?_⟩⟩
  ·show spec_ParsePoles.f k s = _
   rw [small (by omega) k (by omega), e1]
  ·show impl_ParsePoles.f k s = _
   rw [implr k hk, e2]
 ·have hB : ∀ L, run ip P [] = some L → ¬ RowOk L := fun L h1 h2 => hA ⟨L, h1, h2⟩
  have e2 := ri.2 hB
  have e1 := rs.2 (fun L h1 h2 => hB L (run_agree P [] L hpc2 h1 (row_range L h2)).1 h2)
  refine ⟨([], false), by simp, ⟨1048577 + K1, fun k hk => ?_⟩, ⟨K2, fun k hk => ?_⟩⟩
  ·show spec_ParsePoles.f k s = _
   by_cases h50 : s.size > 50
   ·rw [simpl]
    simp only [spec_swParse.f]
    rw [if_pos (by omega)]
   ·rw [small h50 k (by omega), e1]
  ·show impl_ParsePoles.f k s = _
   rw [implr k hk, e2]
/-- The text of poles, as a list. -/
def PT (l : List S24) : List UInt8 := Lib.join (l.map fun p => (pt p).data.toList) [44]
theorem pt_D (p : S24) : (pt p).data.toList = D p.f0.toNat p.f1.toNat := by
 unfold pt D Dec.dec
 simp
theorem chop_glue (l : List S24) (hne : l ≠ []) : Dig.chop 44 [] (PT l) = l.map fun p => (pt p).data.toList := by
 have no44 : ∀ p : S24, (44 : UInt8) ∉ (pt p).data.toList := fun p h => by
  rw [pt_D] at h
  unfold D at h
  have n44 : ¬ Dig.isD 44 := fun h => absurd h.1 (by decide)
  rcases List.mem_append.1 h with h1 | h1
  ·exact not_dec 44 n44 _ h1
  ·rcases List.mem_cons.1 h1 with h2 | h2
   ·exact absurd h2 (by decide)
   ·exact not_dec 44 n44 _ h2
 have key : ∀ r : List S24, ∀ p : S24, Dig.chop 44 [] ((pt p).data.toList ++ glue false r) = (pt p).data.toList :: r.map fun p => (pt p).data.toList := by
  intro r
  induction r with
  | nil =>
   intro p
   simp only [glue, List.append_nil]
   rw [Dig.chop_no 44 _ [] (no44 p)]
   simp
  | cons q r ih =>
   intro p
   have e : (pt p).data.toList ++ glue false (q :: r) = (pt p).data.toList ++ 44 :: ((pt q).data.toList ++ glue false r) := by simp [glue]
   rw [e, Dig.chop_app 44 _ _ [] (no44 p), ih q]
   simp
 cases l with
 | nil => exact absurd rfl hne
 | cons p r =>
  have e : PT (p :: r) = (pt p).data.toList ++ glue false r := by
   unfold PT
   rw [← glue_join]
   simp [glue]
  rw [e, key r p]
  rfl
theorem join_chop (c : UInt8) (l : List UInt8) : ∀ acc, Lib.join (Dig.chop c acc l) [c] = acc ++ l := by
 induction l with
 | nil => intro acc; simp [Dig.chop, Lib.join]
 | cons x r ih =>
  intro acc
  simp only [Dig.chop]
  by_cases h : x = c
  ·rw [if_pos h]
   obtain ⟨a, t, e, -⟩ := Dig.chop_acc c r []
   have := ih []
   rw [e] at this ⊢
   rw [Lib.join_cons] at this ⊢
   simp only [Lib.joinTail, List.map_cons, List.flatten_cons] at this ⊢
   rw [h]
   simp at this ⊢
   exact this
  ·rw [if_neg h, ih]
   simp
theorem run_parts (f : ByteArray → Option (Int × Int)) (xs : List ByteArray) : ∀ L L', (∀ x ∈ xs, Piece x (f x)) → run f xs L = some L' → (∀ p ∈ L', InR p) → ∃ t, L' = L ++ t ∧ xs.map (·.data.toList) = t.map fun p => (pt p).data.toList := by
 induction xs with
 | nil => intro L L' _ h _; simp only [run, Option.some.injEq] at h; exact ⟨[], by simp [h], rfl⟩
 | cons x r ih =>
  intro L L' hP h hr
  simp only [run] at h
  cases hf : f x with
  | none => rw [hf] at h; cases h
  | some p =>
   rw [hf] at h
   simp only [] at h
   obtain ⟨t, e, ht⟩ := ih _ _ (fun y hy => hP y (List.mem_cons_of_mem _ hy)) h hr
   have hp := hr ⟨p.1, p.2⟩ (by rw [e]; simp)
   have hD := (hP x (by simp)).1 p.1 p.2 hf (by have := hp.1.1; simp only [] at this; omega) (by have := hp.2.1; simp only [] at this; omega)
   refine ⟨⟨p.1, p.2⟩ :: t, by rw [e]; simp, ?_⟩
   rw [List.map_cons, List.map_cons, ht, hD, pt_D]
theorem run_back (f : ByteArray → Option (Int × Int)) (l : List S24) : ∀ (xs : List ByteArray) (L : List S24), (∀ x ∈ xs, Piece x (f x)) → (∀ p ∈ l, InR p) → xs.map (·.data.toList) = l.map (fun p => (pt p).data.toList) → run f xs L = some (L ++ l) := by
 induction l with
 | nil =>
  intro xs L _ _ h
  have : xs = [] := by simpa using h
  subst this
  simp [run]
 | cons p l ih =>
  intro xs L hP hr h
  cases xs with
  | nil => simp at h
  | cons x r =>
   rw [List.map_cons, List.map_cons] at h
   injection h with h1 h2
   have hp := hr p (by simp)
   rw [pt_D] at h1
   obtain ⟨⟨p1, p2⟩, p3, p4⟩ := hp
   have hx := (hP x (by simp)).2 p.f0.toNat p.f1.toNat (by omega) (by omega) h1
   simp only [run]
   rw [hx]
   simp only []
   have e1 : ((p.f0.toNat : Nat) : Int) = p.f0 := by omega
   have e2 : ((p.f1.toNat : Nat) : Int) = p.f1 := by omega
   rw [e1, e2, ih r _ (fun y hy => hP y (List.mem_cons_of_mem _ hy)) (fun q hq => hr q (List.mem_cons_of_mem _ hq)) h2]
   simp
theorem texts2 (l : List S24) (hl : l.length ≤ 1000000000) : ∃ R : ByteArray × Bool, Ev (fun k => spec_PolesText.f k l) R ∧ Ev (fun k => impl_PolesText.f k l) R ∧ (R.2 = true ↔ RowOk l) ∧ (R.2 = true → R.1.data.toList = PT l ∧ R.1.size ≤ 100) := by
 obtain ⟨b, ⟨K1, e1⟩, ⟨K2, e2⟩, hb⟩ := row_ev l hl
 cases b with
 | false =>
  refine ⟨((⟨#[]⟩ : ByteArray), false), ⟨K1, fun k hk => ?_⟩, ⟨K2, fun k hk => ?_⟩, hb, fun h => by cases h⟩
  ·simp only [spec_PolesText.f]
   rw [bind_eq (e1 k hk)]
   rfl
  ·simp only [impl_PolesText.f]
   rw [bind_eq (e2 k hk)]
   rfl
 | true =>
  have hok := hb.1 rfl
  have hr : ∀ p ∈ l, InR p := row_range l hok
  have h6 : l.length ≤ 6 := by have := hok.1.2; omega
  obtain ⟨R, ⟨K3, f1⟩, hR⟩ := spec_text l h6 hr l.length (⟨#[]⟩ : ByteArray) 0 (by omega) (by omega) (by show ((0 : Nat) : Int) ≤ _; omega)
  have hjl : (Lib.join (l.map fun p => (pt p).data.toList) [44]).length ≤ 100 := by
   cases hl0 : l with
   | nil => simp [Lib.join]
   | cons p r =>
    have := lens_le (p :: r) (by rw [← hl0]; exact hr)
    rw [List.map_cons, Lib.join_length]
    rw [hl0] at h6
    simp only [List.length_map, List.length_cons, List.length_nil, List.map_cons] at this h6 ⊢
    omega
  have hj : lib_Join.f ([] ++ (l.drop (0 : Int).toNat).map pt) (⟨#[44]⟩ : ByteArray) = some R := by
   have e0 : ([] ++ (l.drop (0 : Int).toNat).map pt) = l.map pt := by simp
   rw [e0]
   unfold lib_Join.f
   have e3 : ((l.map pt).map (·.data.toList)) = l.map fun p => (pt p).data.toList := by rw [List.map_map]; rfl
   have e4 : (⟨#[44]⟩ : ByteArray).data.toList = [44] := rfl
   rw [e3, e4, if_pos ⟨by rw [List.length_map]; omega, by omega⟩]
   congr 1
   apply ByteArray.ext
   apply Array.toList_inj.1
   rw [hR]
   have d0 : decide ((0 : Int) = 0) = true := rfl
   have d1 : l.drop (0 : Int).toNat = l := by simp
   rw [d0, d1, glue_join]
   simp
  obtain ⟨K4, f2⟩ := impl_text_l l h6 hr l.length [] 0 (by omega) (by omega) (by simp) R hj
  have hRj : R.data.toList = PT l := by
   rw [hR]
   have d0 : decide ((0 : Int) = 0) = true := rfl
   have d1 : l.drop (0 : Int).toNat = l := by simp
   rw [d0, d1, glue_join]
   simp [PT]
  refine ⟨(R, true), ⟨K1 + K3, fun k hk => ?_⟩, ⟨K2 + K4, fun k hk => ?_⟩, hb, fun _ => ⟨hRj, by show R.size ≤ 100; rw [size_len, hRj]; exact hjl⟩⟩
  ·simp only [spec_PolesText.f]
   rw [bind_eq (e1 k (by omega)), if_pos rfl]
   have : spec_swText.f k l = some R := f1 k (by omega)
   rw [this]
   rfl
  ·simp only [impl_PolesText.f]
   rw [bind_eq (e2 k (by omega)), if_pos rfl]
   exact f2 k (by omega)
theorem both2 (s : ByteArray) (hs : s.size ≤ 1048576) : ∃ R : List S24 × Bool, R.1.length ≤ 4000000 ∧ Ev (fun k => spec_ParsePoles.f k s) R ∧ Ev (fun k => impl_ParsePoles.f k s) R ∧ (R.2 = true → RowOk R.1 ∧ s.data.toList = PT R.1) ∧ (∀ l : List S24, RowOk l → s.data.toList = PT l → R = (l, true)) := by
 obtain ⟨sp, hsp⟩ := Classical.axiomOfChoice spiece
 obtain ⟨P, hP, hPl, hf⟩ := split_ev s 44 hs
 have hf44 : ∀ k, 1048576 < k → spec_l1Split.f k s 44 = some P := hf
 have hall : ∀ x ∈ P, x.size ≤ 1048576 := fun x hx => by
  have h1 : x.data.toList ∈ Dig.chop 44 [] s.data.toList := by rw [← hP]; exact List.mem_map_of_mem hx
  have h2 := chop_le 44 s.data.toList [] _ h1
  rw [size_len]
  rw [← size_len s] at h2
  simp only [List.length_nil] at h2
  omega
 have hi : lib_Split.f s (⟨#[44]⟩ : ByteArray) = some P := by
  unfold lib_Split.f
  rw [if_pos ⟨by omega, by decide⟩]
  congr 1
  have h1 := Lib.splitB_data (⟨#[44]⟩ : ByteArray) 0 (Lib.countB s (⟨#[44]⟩ : ByteArray)) s
  have h2 : Lib.splitK (⟨#[44]⟩ : ByteArray).data.toList 0 (Lib.countB s (⟨#[44]⟩ : ByteArray)) s.data.toList = Dig.chop 44 [] s.data.toList := Dig.splitK_chop 44 s.data.toList.length s.data.toList (Nat.le_refl _)
  rw [h2, ← hP] at h1
  exact (List.map_inj_right (fun x y h => by
   apply ByteArray.ext; exact Array.toList_inj.1 h)).1 h1
 obtain ⟨Rs, ⟨K1, es⟩, rs⟩ := spec_loop hsp P hall (by omega) P.length [] 0 (by omega) (by omega) (by simp; omega)
 obtain ⟨Ri, ⟨K2, ei⟩, ri⟩ := impl_loop P hall (by omega) P.length [] 0 (by omega) (by omega) (by simp; omega)
 have hpc : ∀ x ∈ P, Piece x (ip x) ∧ Piece x (sp x) := fun x hx => ⟨ipiece x, let ⟨_, _, _, h⟩ := hsp x (hall x hx); h⟩
 have hpc2 : ∀ x ∈ P, Piece x (sp x) ∧ Piece x (ip x) := fun x hx => ⟨(hpc x hx).2, (hpc x hx).1⟩
 have simpl : ∀ k, spec_ParsePoles.f k s = spec_swParse.f k s := fun k => by
  simp only [spec_ParsePoles.f]
  cases spec_swParse.f k s <;> rfl
 have small : ¬ s.size > 50 → ∀ k, 1048576 + K1 < k → spec_ParsePoles.f k s = some Rs := fun h50 k hk => by
  rw [simpl]
  simp only [spec_swParse.f]
  rw [if_neg (by omega), bind_eq (hf44 k (by omega))]
  exact es k (by omega)
 have implr : ∀ k, K2 ≤ k → impl_ParsePoles.f k s = some Ri := fun k hk => by
  simp only [impl_ParsePoles.f]
  rw [bind_eq hi]
  exact ei k hk
 have hbk : ∀ l : List S24, RowOk l → s.data.toList = PT l → run ip P [] = some l := fun l hl h => by
  have hne : l ≠ [] := fun e => by have := hl.1.1; rw [e] at this; simp at this
  have := run_back ip l P [] (fun x hx => ipiece x) (row_range l hl) (by rw [hP, h, chop_glue l hne])
  simpa using this
 by_cases hA : ∃ L, run ip P [] = some L ∧ RowOk L
 ·obtain ⟨L, hL, hok⟩ := hA
  obtain ⟨h1, h2⟩ := run_agree P [] L hpc hL (row_range L hok)
  have e1 := rs.1 L h1 hok
  have e2 := ri.1 L hL hok
  obtain ⟨t, ht, htl⟩ := run_pre ip P [] L hL
  have h3 := sum_le P h2
  have h4 := chop_sum 44 s.data.toList []
  rw [← hP] at h4
  simp only [List.length_map, List.length_nil] at h4
  rw [← size_len s] at h4
  have h5 := hok.1
  rw [ht] at h5
  simp only [List.nil_append] at h5
  refine ⟨(L, true), by rw [ht]; simp only [List.nil_append]; omega, ⟨1048577 + K1, fun k hk => ?_⟩, ⟨K2, fun k hk => ?_⟩, fun _ => ⟨hok, ?_⟩, fun l h1 h2 => by rw [Option.some.inj (hL.symm.trans (hbk l h1 h2))]⟩
  ·show spec_ParsePoles.f k s = _
   rw [small (by omega) k (by omega), e1]
  ·show impl_ParsePoles.f k s = _
   rw [implr k hk, e2]
  ·obtain ⟨t2, e3, e4⟩ := run_parts ip P [] L (fun x hx => ipiece x) hL (row_range L hok)
   have e5 : L = t2 := by simpa using e3
   subst e5
   show s.data.toList = PT L
   unfold PT
   rw [← e4, hP, join_chop]
   simp
 ·have hB : ∀ L, run ip P [] = some L → ¬ RowOk L := fun L h1 h2 => hA ⟨L, h1, h2⟩
  have e2 := ri.2 hB
  have e1 := rs.2 (fun L h1 h2 => hB L (run_agree P [] L hpc2 h1 (row_range L h2)).1 h2)
  refine ⟨([], false), by simp, ⟨1048577 + K1, fun k hk => ?_⟩, ⟨K2, fun k hk => ?_⟩, (fun h => by cases h), fun l h1 h2 => absurd h1 (hB l (hbk l h1 h2))⟩
  ·show spec_ParsePoles.f k s = _
   by_cases h50 : s.size > 50
   ·rw [simpl]
    simp only [spec_swParse.f]
    rw [if_pos (by omega)]
   ·rw [small h50 k (by omega), e1]
  ·show impl_ParsePoles.f k s = _
   rw [implr k hk, e2]
end Go.Proofs.YtkhhlnpiogfofaaGreatDoor.SDText
