/- Decimal numerals: what spec.l1Num and clText tell, over the library's decDigits. No condition beyond the bounds that each theorem names. -/
import Derived.Test.YtkhhlnpiogfofaaGreatDoorSD11
import Derived.Lib.ItoaNum
namespace Go.Proofs.YtkhhlnpiogfofaaGreatDoor.Dec
open Go.RowKit Go.Proofs.YtkhhlnpiogfofaaGreatDoor.PFnShadowsDarkOfAll Go.Proofs.YtkhhlnpiogfofaaGreatDoorW.PrintWords
set_option linter.unusedVariables false

def dec (n : Nat) : ByteArray := ⟨(Lib.decDigits n).toArray⟩
theorem wrap_id {x : Int} (h0 : -9223372036854775808 ≤ x) (h1 : x ≤ 9223372036854775807) : wrap64 x = x := by unfold wrap64; omega
theorem one_num (m : Nat) (h : m < 10) : strOfNums [(wrap64 (48 + (m : Int))) % 256] = (⟨#[UInt8.ofNat (48 + m)]⟩ : ByteArray) := by
  rw [wrap_id (by omega) (by omega)]
  have e : (48 + (m : Int)) % 256 = ((48 + m : Nat) : Int) := by omega
  rw [e]
  unfold strOfNums
  rw [List.map_cons, List.map_nil, Int.toNat_natCast]
theorem dec_small {n : Nat} (h : n < 10) : dec n = (⟨#[UInt8.ofNat (48 + n)]⟩ : ByteArray) := by unfold dec; rw [Lib.decDigits_one h]
theorem append_mk (a b : List UInt8) : (⟨a.toArray⟩ : ByteArray) ++ (⟨b.toArray⟩ : ByteArray) = ⟨(a ++ b).toArray⟩ := by
  apply ByteArray.ext
  simp
theorem dec_big {n : Nat} (h : ¬ n < 10) : dec n = dec (n / 10) ++ (⟨#[UInt8.ofNat (48 + n % 10)]⟩ : ByteArray) := by
  have e := append_mk (Lib.decDigits (n / 10)) [UInt8.ofNat (48 + n % 10)]
  unfold dec
  rw [Lib.decDigits, dif_neg h, ← e]
theorem dec_size (n : Nat) : (dec n).size = Lib.nDigits n := by
  unfold dec
  show (Lib.decDigits n).toArray.size = _
  rw [List.size_toArray, Lib.decDigits_length]
theorem nDigits_le (n k : Nat) (h : n < 10 ^ (k + 1)) : Lib.nDigits n ≤ k + 1 := by
  induction k generalizing n with
  | zero => rw [Lib.nDigits_small (by simpa using h)]; omega
  | succ k ih =>
    by_cases hs : n < 10
    · rw [Lib.nDigits_small hs]; omega
    · rw [Lib.nDigits_big hs]
      have := ih (n / 10) (by rw [Nat.pow_succ] at h; omega)
      omega
theorem dec_le (n : Nat) (h : n < 10000) : (dec n).size ≤ 4 := by rw [dec_size]; exact nDigits_le n 3 (by simpa using h)

theorem l1Num_dec (n : Nat) : ∀ k : Nat, n < 10000 → n < k → spec_l1Num.f k (n : Int) = some (dec n) := by
  induction n using Nat.strongRecOn with
  | _ n ih =>
    intro k hn hk
    obtain ⟨k, rfl⟩ : ∃ m, k = m + 1 := ⟨k - 1, by omega⟩
    simp only [spec_l1Num.f]
    by_cases h : n < 10
    · rw [if_pos (by omega), one_num n h, dec_small h]
    · have e1 : wrap64 (Int.tdiv (n : Int) 10) = ((n / 10 : Nat) : Int) := by
        rw [Int.tdiv_eq_ediv_of_nonneg (by omega), wrap_id (by omega) (by omega)]
        omega
      have e2 : Int.tmod (n : Int) 10 = ((n % 10 : Nat) : Int) := by
        rw [Int.tmod_eq_emod_of_nonneg (by omega)]
        omega
      rw [if_neg (by omega), e1, ih (n / 10) (by omega) k (by omega) (by omega), e2]
      simp only [Option.bind_some]
      rw [one_num (n % 10) (by omega)]
      have hs := dec_le (n / 10) (by omega)
      have hs1 : (⟨#[UInt8.ofNat (48 + n % 10)]⟩ : ByteArray).size = 1 := rfl
      rw [if_pos (by omega), dec_big h]
end Go.Proofs.YtkhhlnpiogfofaaGreatDoor.Dec
