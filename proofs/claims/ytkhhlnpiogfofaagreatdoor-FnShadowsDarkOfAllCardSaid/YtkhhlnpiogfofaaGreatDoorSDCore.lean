/- Plain laws on spec.l1Split and spec.l1Read, at the printed functions of FnExactParseLadders. No condition beyond the bounds that each theorem names. -/
import Derived.Test.YtkhhlnpiogfofaaGreatDoorSD13
import Derived.Test.YtkhhlnpiogfofaaGreatDoorSD12
import Derived.Test.YtkhhlnpiogfofaaGreatDoorSD2
import Derived.Test.YtkhhlnpiogfofaaGreatDoorSD4
import Derived.Test.YtkhhlnpiogfofaaGreatDoorDig
import Derived.Test.YtkhhlnpiogfofaaGreatDoorDec
import Derived.Lib.Bytes
namespace Go.Proofs.YtkhhlnpiogfofaaGreatDoor.SDCore
open Go.RowKit Go.Proofs.YtkhhlnpiogfofaaGreatDoor.PFnShadowsDarkOfAll Go.Proofs.YtkhhlnpiogfofaaGreatDoorW.PrintWords
set_option linter.unusedVariables false
set_option linter.unusedSimpArgs false

theorem bind_eq {α β : Type} {g : Option α} {a : α} (h : g = some a) (f : α → Option β) : g.bind f = f a := by rw [h]; rfl
theorem wrap_id {x : Int} (h0 : -9223372036854775808 ≤ x) (h1 : x ≤ 9223372036854775807) : wrap64 x = x := by unfold wrap64; omega

theorem in_eq (a b c : Int) : spec_l1In.f a b c = some (decide (b ≤ a ∧ a ≤ c)) := by
 unfold spec_l1In.f
 by_cases h : a ≥ b
 ·rw [if_pos h]; simp [h]
 ·rw [if_neg h]; simp; omega

theorem within_eq (a b c : Int) : impl_within.f a b c = some (decide (b ≤ a ∧ a ≤ c)) := by
 unfold impl_within.f
 by_cases h : a ≥ b
 ·rw [if_pos h]; simp [h]
 ·rw [if_neg h]; simp; omega

theorem mulb {a b A B : Int} (ha : 0 ≤ a) (ha2 : a ≤ A) (hb : 0 ≤ b) (hb2 : b ≤ B) : 0 ≤ a * b ∧ a * b ≤ A * B :=
 ⟨Int.mul_nonneg ha hb, Int.mul_le_mul ha2 hb2 hb (by omega)⟩

theorem toList_eq (s : ByteArray) : s.toList = s.data.toList := ByteArray.toList_eq s
theorem size_len (s : ByteArray) : s.size = s.data.toList.length := by
 rw [Array.length_toList]; rfl
theorem bt_get (s : ByteArray) (i : Nat) (c : UInt8) (h : s.data.toList[i]? = some c) : bt s (i : Int) = (c.toNat : Int) := by
 obtain ⟨hi, e⟩ := List.getElem?_eq_some_iff.1 h
 have hs : i < s.size := by rw [size_len]; exact hi
 rw [← bt_at s (i : Int) (by simpa using hs)]
 have : s[(i : Int).toNat]'(by simpa using hs) = c := by
  rw [← e]
  simp [ByteArray.getElem_eq_getElem_data]
 rw [this]
theorem extract_list (s : ByteArray) (a b : Nat) : (s.extract a b).data.toList = (s.data.toList.take b).drop a := by
 rw [Lib.extract_data, List.drop_take]
theorem split_l (s : ByteArray) (c : UInt8) (hs : s.size ≤ 1048576) (n : Nat) : ∀ (k : Nat) (P : List ByteArray) (f i : Nat), f ≤ i → i + n = s.size → n < k → P.length ≤ i →
  ∃ R : List ByteArray, R.map (·.data.toList) = P.map (·.data.toList) ++ Dig.chop c ((s.data.toList.take i).drop f) (s.data.toList.drop i) ∧ R.length ≤ s.size + 1 ∧ spec_l1Split.l0 k s (c.toNat : Int) P (f : Int) (i : Int) = some R := by
 induction n with
 | zero =>
  intro k P f i h0 h1 hk hP
  obtain ⟨k, rfl⟩ : ∃ m, k = m + 1 := ⟨k - 1, by omega⟩
  have hi : i = s.size := by omega
  refine ⟨P ++ [s.extract f s.size], ?_, by rw [List.length_append, List.length_singleton]; omega, ?_⟩
  ·have hnil : s.data.toList.drop s.size = [] := List.drop_eq_nil_of_le (by rw [size_len]; exact Nat.le_refl _)
   rw [List.map_append, hi, hnil]
   simp only [List.map_cons, List.map_nil, Dig.chop, extract_list]
  ·simp only [spec_l1Split.l0]
   rw [if_neg (by omega), if_pos (by omega), if_pos (by omega), if_pos (by omega)]
   simp
 | succ n ih =>
  intro k P f i h0 h1 hk hP
  obtain ⟨k, rfl⟩ : ∃ m, k = m + 1 := ⟨k - 1, by omega⟩
  have hi : i < s.data.toList.length := by rw [← size_len]; omega
  obtain ⟨b, hb⟩ : ∃ b, s.data.toList[i]? = some b := ⟨_, List.getElem?_eq_getElem hi⟩
  have hbt := bt_get s i b hb
  have hdrop : s.data.toList.drop i = b :: s.data.toList.drop (i + 1) := by
   rw [List.drop_eq_getElem_cons hi]
   obtain ⟨_, e⟩ := List.getElem?_eq_some_iff.1 hb
   rw [e]
  have hw : wrap64 ((i : Int) + 1) = ((i + 1 : Nat) : Int) := by rw [wrap_id (by omega) (by omega)]; omega
  by_cases hc : b = c
  ·subst hc
   obtain ⟨R, e1, e3, e2⟩ := ih k (P ++ [s.extract f i]) (i + 1) (i + 1) (by omega) (by omega) (by omega) (by rw [List.length_append, List.length_singleton]; omega)
   refine ⟨R, ?_, e3, ?_⟩
   ·rw [e1, hdrop, List.map_append]
    have : (s.data.toList.take (i + 1)).drop (i + 1) = [] := List.drop_eq_nil_of_le (by rw [List.length_take]; omega)
    rw [this]
    simp only [Dig.chop, List.map_cons, List.map_nil, extract_list]
    simp
   ·simp only [spec_l1Split.l0]
    rw [if_pos (by omega), if_pos (by omega), hbt, if_pos rfl, if_pos (by omega), if_pos (by omega), if_pos (by omega), if_pos (by omega), hw]
    simpa using e2
  ·obtain ⟨R, e1, e3, e2⟩ := ih k P f (i + 1) (by omega) (by omega) (by omega) (by omega)
   refine ⟨R, ?_, e3, ?_⟩
   ·rw [e1, hdrop]
    simp only [Dig.chop]
    rw [if_neg hc]
    have : (s.data.toList.take (i + 1)).drop f = (s.data.toList.take i).drop f ++ [b] := by
     rw [List.take_add_one, hb, List.drop_append_of_le_length (by rw [List.length_take]; omega)]
     rfl
    rw [this]
   ·have hne : ¬ ((b.toNat : Int) = (c.toNat : Int)) := fun e => hc (UInt8.toNat_inj.1 (by omega))
    simp only [spec_l1Split.l0]
    rw [if_pos (by omega), if_pos (by omega), hbt, if_neg hne, hw]
    exact e2
theorem split_ev (s : ByteArray) (c : UInt8) (hs : s.size ≤ 1048576) : ∃ R : List ByteArray, R.map (·.data.toList) = Dig.chop c [] s.data.toList ∧ R.length ≤ s.size + 1 ∧ ∀ k, 1048576 < k → spec_l1Split.f k s (c.toNat : Int) = some R := by
 obtain ⟨R, e1, e3, e2⟩ := split_l s c hs s.size (s.size + 1) [] 0 0 (by omega) (by omega) (by omega) (by simp)
 refine ⟨R, by simpa using e1, e3, fun k hk => ?_⟩
 obtain ⟨R', e4, _, e5⟩ := split_l s c hs s.size k [] 0 0 (by omega) (by omega) (by omega) (by simp)
 have : R' = R := by
  have h : R'.map (·.data.toList) = R.map (·.data.toList) := by rw [e4, e1]
  exact (List.map_inj_right (fun x y h => by
   apply ByteArray.ext; exact Array.toList_inj.1 h)).1 h
 rw [← this]
 exact e5
open Classical in
theorem read_l (s : ByteArray) (hs : s.size ≤ 6) (n : Nat) : ∀ (k a i : Nat), i + n = s.size → n < k → a < 10 ^ i →
  spec_l1Read.l0 k s (a : Int) (i : Int) = some (if ∀ c ∈ s.data.toList.drop i, Dig.isD c then ((Dig.valFrom a (s.data.toList.drop i) : Nat) : Int) else -1) := by
 induction n with
 | zero =>
  intro k a i h1 hk ha
  obtain ⟨k, rfl⟩ : ∃ m, k = m + 1 := ⟨k - 1, by omega⟩
  have hi : i = s.size := by omega
  have hnil : s.data.toList.drop i = [] := List.drop_eq_nil_of_le (by rw [hi, size_len]; exact Nat.le_refl _)
  simp only [spec_l1Read.l0]
  rw [if_neg (by omega), hnil, if_pos (by simp)]
  rfl
 | succ n ih =>
  intro k a i h1 hk ha
  obtain ⟨k, rfl⟩ : ∃ m, k = m + 1 := ⟨k - 1, by omega⟩
  have hi : i < s.data.toList.length := by rw [← size_len]; omega
  obtain ⟨b, hb⟩ : ∃ b, s.data.toList[i]? = some b := ⟨_, List.getElem?_eq_getElem hi⟩
  have hbt := bt_get s i b hb
  have hdrop : s.data.toList.drop i = b :: s.data.toList.drop (i + 1) := by
   rw [List.drop_eq_getElem_cons hi]
   obtain ⟨_, e⟩ := List.getElem?_eq_some_iff.1 hb
   rw [e]
  have hw : wrap64 ((i : Int) + 1) = ((i + 1 : Nat) : Int) := by rw [wrap_id (by omega) (by omega)]; omega
  have hp : 10 ^ i ≤ 10 ^ 5 := Nat.pow_le_pow_right (by omega) (by omega)
  have h5 : (10 : Nat) ^ 5 = 100000 := by decide
  simp only [spec_l1Read.l0]
  rw [if_pos (by omega), if_pos (by omega), hbt]
  by_cases c1 : (b.toNat : Int) < 48
  ·rw [if_pos c1, if_neg (fun h => by have := (h b (by rw [hdrop]; simp)).1; omega)]
  ·rw [if_neg c1]
   by_cases c2 : (b.toNat : Int) > 57
   ·rw [if_pos c2, if_neg (fun h => by have := (h b (by rw [hdrop]; simp)).2; omega)]
   ·have hD : Dig.isD b := ⟨by omega, by omega⟩
    have hv : wrap64 ((wrap64 (10 * (a : Int))) + (((b.toNat : Int) - 48) % 256)) = ((a * 10 + (b.toNat - 48) : Nat) : Int) := by
     rw [wrap_id (x := 10 * (a : Int)) (by omega) (by omega), wrap_id (by omega) (by omega)]
     omega
    have hpow : (10 : Nat) ^ (i + 1) = 10 ^ i * 10 := Nat.pow_succ _ _
    rw [if_neg c2, hv, hw, ih k (a * 10 + (b.toNat - 48)) (i + 1) (by omega) (by omega) (by omega), hdrop]
    congr 1
    by_cases hall : ∀ c ∈ s.data.toList.drop (i + 1), Dig.isD c
    ·rw [if_pos hall, if_pos (List.forall_mem_cons.2 ⟨hD, hall⟩)]
     rfl
    ·rw [if_neg hall, if_neg (fun h => hall (fun c hc => h c (List.mem_cons_of_mem _ hc)))]
/-- What l1Read tells: the number whose numeral the text is, below a million, or -1. -/
theorem read_ev (s : ByteArray) : ∃ v : Int, (∀ k, 10 ≤ k → spec_l1Read.f k s = some v) ∧ -1 ≤ v ∧ v < 1000000 ∧ (∀ n : Nat, n < 1000000 → s.data.toList = Lib.decDigits n → v = n) ∧ (0 ≤ v → s.data.toList = Lib.decDigits v.toNat) := by
 have hlen : ∀ n : Nat, n < 1000000 → (Lib.decDigits n).length ≤ 6 := fun n hn => by rw [Lib.decDigits_length]; exact Dec.nDigits_le n 5 (by simpa using hn)
 by_cases h1 : 1 ≤ s.size ∧ s.size ≤ 6
 ·obtain ⟨c, hc⟩ : ∃ c, s.data.toList[0]? = some c := ⟨_, List.getElem?_eq_getElem (by rw [← size_len]; omega)⟩
  have hbt := bt_get s 0 c hc
  have hin : spec_l1In.f (s.size : Int) 1 6 = some true := by rw [in_eq, decide_eq_true (by omega)]
  by_cases h2 : c = 48 ∧ 1 < s.size
  ·refine ⟨-1, fun k hk => ?_, by omega, by omega, fun n hn e => ?_, fun h => by omega⟩
   ·obtain ⟨k, rfl⟩ : ∃ m, k = m + 1 := ⟨k - 1, by omega⟩
    simp only [spec_l1Read.f]
    rw [bind_eq hin]
    have h0 : bt s 0 = 48 := by rw [show (0 : Int) = ((0 : Nat) : Int) from rfl, hbt, h2.1]; rfl
    rw [if_pos rfl, if_pos (by omega), if_pos h0]
    simp only [spec_l1Read.j0]
    rw [if_pos (decide_eq_true (by omega))]
   ·exfalso
    by_cases hn0 : n = 0
    ·subst hn0
     rw [Dig.dec_small (by omega)] at e
     have := size_len s
     rw [e] at this
     simp at this
     omega
    ·have := Dig.dec_head n (by omega)
     rw [← e] at this
     apply this
     rw [List.head?_eq_getElem?, hc, h2.1]
  ·have hr := read_l s h1.2 s.size
   have key : ∀ k, 10 ≤ k → spec_l1Read.f k s = spec_l1Read.l0 (k - 1) s 0 0 := fun k hk => by
    obtain ⟨k, rfl⟩ : ∃ m, k = m + 1 := ⟨k - 1, by omega⟩
    simp only [spec_l1Read.f]
    rw [bind_eq hin, if_pos rfl, if_pos (by omega)]
    by_cases h3 : bt s 0 = 48
    ·rw [if_pos h3]
     have hc48 : c = 48 := by
      rw [show (0 : Int) = ((0 : Nat) : Int) from rfl, hbt] at h3
      exact UInt8.toNat_inj.1 (by have h48 : (48 : UInt8).toNat = 48 := rfl; omega)
     simp only [spec_l1Read.j0]
     rw [if_neg (by rw [decide_eq_true_eq]; intro hgt; exact h2 ⟨hc48, by omega⟩)]
     rfl
    ·rw [if_neg h3]
     simp only [spec_l1Read.j0]
     rw [if_neg (by simp)]
     rfl
   have hne : s.data.toList ≠ [] := fun e => by
    have h := size_len s
    rw [e] at h
    simp only [List.length_nil] at h
    omega
   by_cases hall : ∀ d ∈ s.data.toList, Dig.isD d
   ·have hdv := Dig.dec_val s.data.toList.length s.data.toList rfl hne hall (by
     by_cases h4 : c = 48
     ·right
      rw [← size_len]
      by_cases hsz : 1 < s.size
      ·exact absurd ⟨h4, hsz⟩ h2
      ·omega
     ·left; rw [List.head?_eq_getElem?, hc]; simpa using h4)
    have hlt : Dig.valFrom 0 s.data.toList < 1000000 := by
     have h5 := Lib.lt_pow_nDigits (Dig.valFrom 0 s.data.toList)
     rw [← Lib.decDigits_length, hdv, ← size_len] at h5
     have h6 : 10 ^ s.size ≤ 10 ^ 6 := Nat.pow_le_pow_right (by omega) h1.2
     have h7 : (10 : Nat) ^ 6 = 1000000 := by decide
     omega
    refine ⟨((Dig.valFrom 0 s.data.toList : Nat) : Int), fun k hk => ?_, by omega, by omega, fun n hn e => ?_, fun _ => ?_⟩
    ·rw [key k hk]
     have := hr (k - 1) 0 0 (by omega) (by omega) (by simp)
     rw [List.drop_zero, if_pos hall] at this
     exact this
    ·rw [e, Dig.val_dec]
    ·rw [Int.toNat_natCast]; exact hdv.symm
   ·refine ⟨-1, fun k hk => ?_, by omega, by omega, fun n hn e => absurd (by rw [e]; exact Dig.dec_digits n) hall, fun h => by omega⟩
    rw [key k hk]
    have := hr (k - 1) 0 0 (by omega) (by omega) (by simp)
    rw [List.drop_zero, if_neg hall] at this
    exact this
 ·refine ⟨-1, fun k hk => ?_, by omega, by omega, fun n hn e => ?_, fun h => by omega⟩
  ·obtain ⟨k, rfl⟩ : ∃ m, k = m + 1 := ⟨k - 1, by omega⟩
   simp only [spec_l1Read.f]
   rw [in_eq, decide_eq_false (by omega), Option.bind_some, if_neg (by simp)]
   simp [spec_l1Read.j0]
  ·exfalso
   have h3 := hlen n hn
   have h4 := size_len s
   rw [e] at h4
   have h5 : (Lib.decDigits n).length ≠ 0 := fun e => Dig.dec_ne n (List.length_eq_zero_iff.1 e)
   omega
end Go.Proofs.YtkhhlnpiogfofaaGreatDoor.SDCore
