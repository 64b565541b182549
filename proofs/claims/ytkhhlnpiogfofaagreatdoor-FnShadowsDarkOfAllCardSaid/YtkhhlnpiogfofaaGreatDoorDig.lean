/- Plain laws on decimal numerals and on texts cut at a byte; no program in sight. No condition beyond those that each theorem names. -/
import Derived.Lib.AtoiAllCases
import Derived.Lib.ItoaNum
import Derived.Lib.SplitLaws
namespace Go.Proofs.YtkhhlnpiogfofaaGreatDoor.Dig
open Go.Lib
set_option linter.unusedVariables false

def isD (c : UInt8) : Prop := 48 ≤ c.toNat ∧ c.toNat ≤ 57
def valFrom (acc : Nat) (l : List UInt8) : Nat := l.foldl (fun a c => a * 10 + (c.toNat - 48)) acc
theorem byte_dig (m : Nat) (h : m < 10) : (UInt8.ofNat (48 + m)).toNat = 48 + m := by
 rw [UInt8.toNat_ofNat']
 omega
theorem isD_dig (m : Nat) (h : m < 10) : isD (UInt8.ofNat (48 + m)) := by
 unfold isD
 rw [byte_dig m h]
 omega
theorem dec_small {n : Nat} (h : n < 10) : decDigits n = [UInt8.ofNat (48 + n)] := decDigits_one h
theorem dec_big {n : Nat} (h : ¬ n < 10) : decDigits n = decDigits (n / 10) ++ [UInt8.ofNat (48 + n % 10)] := by
 rw [decDigits, dif_neg h]
theorem dec_digits (n : Nat) : ∀ c ∈ decDigits n, isD c := by
 induction n using Nat.strongRecOn with
 | _ n ih =>
  intro c hc
  by_cases h : n < 10
  ·rw [dec_small h] at hc
   rw [List.mem_singleton.1 hc]
   exact isD_dig n h
  ·rw [dec_big h] at hc
   rcases List.mem_append.1 hc with h1 | h1
   ·exact ih (n / 10) (by omega) c h1
   ·rw [List.mem_singleton.1 h1]
    exact isD_dig (n % 10) (by omega)
theorem dec_ne (n : Nat) : decDigits n ≠ [] := by
 by_cases h : n < 10
 ·rw [dec_small h]; simp
 ·rw [dec_big h]; simp
theorem val_app (acc : Nat) (l : List UInt8) (c : UInt8) : valFrom acc (l ++ [c]) = valFrom acc l * 10 + (c.toNat - 48) := by
 unfold valFrom
 rw [List.foldl_append]
 rfl
theorem val_dec (n : Nat) : valFrom 0 (decDigits n) = n := by
 induction n using Nat.strongRecOn with
 | _ n ih =>
  by_cases h : n < 10
  ·rw [dec_small h]
   show 0 * 10 + ((UInt8.ofNat (48 + n)).toNat - 48) = n
   rw [byte_dig n h]
   omega
  ·rw [dec_big h, val_app, ih (n / 10) (by omega), byte_dig (n % 10) (by omega)]
   omega
theorem val_ge (l : List UInt8) : ∀ acc : Nat, acc ≤ valFrom acc l := by
 induction l with
 | nil => intro acc; exact Nat.le_refl _
 | cons c r ih =>
  intro acc
  have := ih (acc * 10 + (c.toNat - 48))
  show acc ≤ valFrom (acc * 10 + (c.toNat - 48)) r
  omega
theorem dec_head (n : Nat) (h : 1 ≤ n) : (decDigits n).head? ≠ some 48 := by
 induction n using Nat.strongRecOn with
 | _ n ih =>
  by_cases hs : n < 10
  ·rw [dec_small hs]
   intro e
   have e1 : UInt8.ofNat (48 + n) = 48 := by simpa using e
   have := congrArg UInt8.toNat e1
   rw [byte_dig n hs] at this
   have h48 : (48 : UInt8).toNat = 48 := rfl
   omega
  ·rw [dec_big hs]
   have h1 := ih (n / 10) (by omega) (by omega)
   have h2 := dec_ne (n / 10)
   cases hd : decDigits (n / 10) with
   | nil => exact absurd hd h2
   | cons a t => rw [hd] at h1; simpa using h1
theorem ofNat_of_isD {c : UInt8} (h : isD c) : UInt8.ofNat (48 + (c.toNat - 48)) = c := by
 have h1 := h.1
 rw [show 48 + (c.toNat - 48) = c.toNat by omega]
 exact UInt8.ofNat_toNat
/-- A numeral without leading zeros is the one of its value. -/
theorem dec_val (n : Nat) : ∀ l : List UInt8, l.length = n → l ≠ [] → (∀ c ∈ l, isD c) → (l.head? ≠ some 48 ∨ l.length = 1) → decDigits (valFrom 0 l) = l := by
 induction n with
 | zero => intro l hn h0; exact absurd (List.length_eq_zero_iff.1 hn) h0
 | succ n ih =>
  intro l hn h0 hd hh
  obtain ⟨l', c, rfl⟩ : ∃ l' c, l = l' ++ [c] := ⟨l.dropLast, l.getLast h0, (List.dropLast_concat_getLast h0).symm⟩
  have hc : isD c := hd c (by simp)
  rw [List.length_append, List.length_singleton] at hn hh
  rw [val_app]
  have hc1 := hc.1
  have hc2 := hc.2
  by_cases he : l' = []
  ·subst he
   show decDigits (0 * 10 + (c.toNat - 48)) = [c]
   rw [dec_small (by omega), show (0 * 10 + (c.toNat - 48)) = c.toNat - 48 by omega, ofNat_of_isD hc]
  ·have hl : l'.length ≠ 0 := fun e => he (List.length_eq_zero_iff.1 e)
   have hd' : ∀ c ∈ l', isD c := fun x hx => hd x (List.mem_append_left _ hx)
   have hh' : l'.head? ≠ some 48 := by
    rcases hh with h | h
    ·cases l' with
     | nil => exact absurd rfl he
     | cons a t => simpa using h
    ·omega
   have e := ih l' (by omega) he hd' (.inl hh')
   have hpos : 1 ≤ valFrom 0 l' := by
    cases l' with
    | nil => exact absurd rfl he
    | cons a t =>
     have ha := hd' a (by simp)
     have hne : a ≠ 48 := fun h => hh' (by rw [h]; rfl)
     have hne2 : a.toNat ≠ 48 := fun h => hne (UInt8.toNat_inj.1 h)
     have := val_ge t (0 * 10 + (a.toNat - 48))
     have ha1 := ha.1
     show 1 ≤ valFrom (0 * 10 + (a.toNat - 48)) t
     omega
   rw [dec_big (by omega), show (valFrom 0 l' * 10 + (c.toNat - 48)) / 10 = valFrom 0 l' by omega, show (valFrom 0 l' * 10 + (c.toNat - 48)) % 10 = c.toNat - 48 by omega, e, ofNat_of_isD hc]
theorem parse_dec (l : List UInt8) : ∀ acc : Nat, (∀ c ∈ l, isD c) → valFrom acc l < 1000000000000000000 → parseUint10 acc l = .ok (valFrom acc l) := by
 induction l with
 | nil => intro acc _ _; rfl
 | cons c r ih =>
  intro acc hd hb
  have hc : isD c := hd c (by simp)
  have hge := val_ge r (acc * 10 + (c.toNat - 48))
  have hb' : valFrom (acc * 10 + (c.toNat - 48)) r < 1000000000000000000 := hb
  simp only [parseUint10]
  rw [if_pos (show 48 ≤ c.toNat ∧ c.toNat ≤ 57 from hc), if_neg (by omega), if_neg (by omega)]
  exact ih _ (fun x hx => hd x (List.mem_cons_of_mem _ hx)) hb'
theorem atoi_dec (n : Nat) (h : n < 1000000000000000000) : atoiAll (decDigits n) = .ok (n : Int) := by
 have hp : parseMag (decDigits n) = .ok n := by
  unfold parseMag
  rw [if_neg (dec_ne n), parse_dec _ 0 (dec_digits n) (by rw [val_dec]; exact h), val_dec]
 cases hd : decDigits n with
 | nil => exact absurd hd (dec_ne n)
 | cons c r =>
  have hc : isD c := dec_digits n c (by rw [hd]; simp)
  have hc1 := hc.1
  rw [atoiAll_plain c r (by omega) (by omega), ← hd, hp]
  simp only [signless]
  rw [if_neg (by omega)]
theorem itoa_dec (n : Nat) : itoa (n : Int) = decDigits n := by
 unfold itoa
 rw [if_neg (by omega), Int.toNat_natCast]

/-- A text cut at each byte c; acc stands ahead of the first piece. -/
def chop (c : UInt8) : List UInt8 → List UInt8 → List (List UInt8)
 | acc, [] => [acc]
 | acc, b :: l => if b = c then acc :: chop c [] l else chop c (acc ++ [b]) l
theorem chop_no (c : UInt8) (l : List UInt8) : ∀ acc, c ∉ l → chop c acc l = [acc ++ l] := by
 induction l with
 | nil => intro acc _; simp [chop]
 | cons b r ih =>
  intro acc h
  have hb : ¬ b = c := fun e => h (by rw [e]; simp)
  simp only [chop]
  rw [if_neg hb, ih _ (fun e => h (List.mem_cons_of_mem _ e))]
  simp
theorem chop_app (c : UInt8) (l r : List UInt8) : ∀ acc, c ∉ l → chop c acc (l ++ c :: r) = (acc ++ l) :: chop c [] r := by
 induction l with
 | nil => intro acc _; simp [chop]
 | cons b t ih =>
  intro acc h
  have hb : ¬ b = c := fun e => h (by rw [e]; simp)
  simp only [List.cons_append, chop]
  rw [if_neg hb, ih _ (fun e => h (List.mem_cons_of_mem _ e))]
  simp
theorem chop_acc (c : UInt8) (l : List UInt8) : ∀ acc, ∃ h t, chop c [] l = h :: t ∧ chop c acc l = (acc ++ h) :: t := by
 induction l with
 | nil => intro acc; exact ⟨[], [], rfl, by simp [chop]⟩
 | cons b r ih =>
  intro acc
  by_cases hb : b = c
  ·exact ⟨[], chop c [] r, by simp [chop, hb], by simp [chop, hb]⟩
  ·obtain ⟨h, t, e1, e2⟩ := ih [b]
   obtain ⟨h', t', e3, e4⟩ := ih (acc ++ [b])
   rw [e1] at e3
   injection e3 with e5 e6
   subst e5 e6
   refine ⟨b :: h, t, ?_, ?_⟩
   ·simp only [chop]; rw [if_neg hb]; simpa using e2
   ·simp only [chop]; rw [if_neg hb, e4]; simp
theorem index_cons (b c : UInt8) (l : List UInt8) : index (b :: l) [c] = if b = c then 0 else if index l [c] = -1 then -1 else index l [c] + 1 := by
 rw [index]
 by_cases h : b = c
 ·subst h; simp [List.isPrefixOf]
 ·have : ([c] : List UInt8).isPrefixOf (b :: l) = false := by simp [List.isPrefixOf, Ne.symm h]
  rw [this, if_neg h]
  simp
theorem index_no (c : UInt8) (l : List UInt8) (h : c ∉ l) : index l [c] = -1 := by
 induction l with
 | nil => rfl
 | cons b r ih =>
  rw [index_cons, if_neg (fun e => h (by rw [e]; simp)), if_pos (ih (fun e => h (List.mem_cons_of_mem _ e)))]
theorem index_app (c : UInt8) (l r : List UInt8) (h : c ∉ l) : index (l ++ c :: r) [c] = (l.length : Int) := by
 induction l with
 | nil => rw [List.nil_append, index_cons, if_pos rfl]; rfl
 | cons b t ih =>
  rw [List.cons_append, index_cons, if_neg (fun e => h (by rw [e]; simp)), ih (fun e => h (List.mem_cons_of_mem _ e)), if_neg (by omega), List.length_cons]
  omega
/-- Either the byte is not there, or the text is what stands before the first one, the byte, and what stands behind. -/
theorem parts (c : UInt8) (l : List UInt8) : c ∉ l ∨ ∃ a r, c ∉ a ∧ l = a ++ c :: r := by
 by_cases h : c ∈ l
 ·right
  obtain ⟨a, r, e, ha⟩ := List.eq_append_cons_of_mem h
  exact ⟨a, r, ha, e⟩
 ·exact .inl h
theorem cut_no (c : UInt8) (l : List UInt8) (h : c ∉ l) : cut l [c] = (l, [], false) := by
 unfold cut
 rw [index_no c l h, if_neg (by omega)]
theorem cut_app (c : UInt8) (l r : List UInt8) (h : c ∉ l) : cut (l ++ c :: r) [c] = (l, r, true) := by
 unfold cut
 rw [index_app c l r h, if_pos (by omega)]
 simp
theorem splitK_chop (c : UInt8) (n : Nat) : ∀ l : List UInt8, l.length ≤ n → splitK [c] 0 (count l [c]) l = chop c [] l := by
 induction n with
 | zero =>
  intro l hn
  have : l = [] := List.length_eq_zero_iff.1 (by omega)
  subst this
  rw [count_miss (index_no c [] (by simp))]
  rfl
 | succ n ih =>
  intro l hn
  rcases parts c l with h | ⟨a, r, ha, rfl⟩
  ·rw [count_miss (index_no c l h), chop_no c l [] h]
   rfl
  ·have hi := index_app c a r ha
   have hdrop : (a ++ c :: r).drop (a.length + ([c] : List UInt8).length) = r := by simp
   rw [count_hit (by simp) hi, hdrop, Nat.add_comm 1, splitK, if_neg (by rw [hi]; intro e; have := beq_iff_eq.1 e; omega), hi]
   have h1 : (a ++ c :: r).take (((a.length : Int)).toNat + 0) = a := by simp
   have h2 : (a ++ c :: r).drop ((a.length : Int).toNat + ([c] : List UInt8).length) = r := by simp
   rw [h1, h2, ih r (by rw [List.length_append, List.length_cons] at hn; omega), chop_app c a r [] ha]
   rfl
end Go.Proofs.YtkhhlnpiogfofaaGreatDoor.Dig
