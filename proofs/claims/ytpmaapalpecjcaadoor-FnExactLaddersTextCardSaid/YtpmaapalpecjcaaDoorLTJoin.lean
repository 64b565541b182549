/- The plain law and the walk of FnExactLaddersText joined: whatever the ladders, the law returns true. Condition: the library's table (Tab). -/
import Derived.Test.YtpmaapalpecjcaaDoorLText
import Derived.Test.YtpmaapalpecjcaaDoorDec
import Derived.Test.YtpmaapalpecjcaaDoorTextC
namespace Go.Proofs.YtpmaapalpecjcaaDoor.LTJoin
open Go.RowKit Go.Proofs.YtpmaapalpecjcaaDoor.PFnExactLaddersText Go.Proofs.YtpmaapalpecjcaaDoorW.PrintWords Go.Proofs.YtpmaapalpecjcaaDoor.TextC
set_option linter.unusedVariables false
set_option linter.unusedSimpArgs false

theorem wrap_id {x : Int} (h0 : -9223372036854775808 ≤ x) (h1 : x ≤ 9223372036854775807) : wrap64 x = x := by unfold wrap64; omega

theorem in_eq (a b c : Int) : spec_l1In.f a b c = some (decide (b ≤ a ∧ a ≤ c)) := by
  unfold spec_l1In.f
  by_cases h : a ≥ b
  · rw [if_pos h]; simp [h]
  · rw [if_neg h]; simp; omega

theorem within_eq (a b c : Int) : impl_within.f a b c = some (decide (b ≤ a ∧ a ≤ c)) := by
  unfold impl_within.f
  by_cases h : a ≥ b
  · rw [if_pos h]; simp [h]
  · rw [if_neg h]; simp; omega

theorem mulb {a b A B : Int} (ha : 0 ≤ a) (ha2 : a ≤ A) (hb : 0 ≤ b) (hb2 : b ≤ B) : 0 ≤ a * b ∧ a * b ≤ A * B :=
  ⟨Int.mul_nonneg ha hb, Int.mul_le_mul ha2 hb2 hb (by omega)⟩


theorem lad_spec (a b c : Int) : spec_clGood.f a b c = some (decide ((1 ≤ a ∧ a ≤ 1000) ∧ (1 ≤ b ∧ b ≤ 1000) ∧ (1 ≤ c ∧ c ≤ 1000))) := by
  simp only [spec_clGood.f, in_eq, Option.bind_some, decide_eq_true_eq]
  by_cases h : 1 ≤ a ∧ a ≤ 1000 <;> by_cases h2 : 1 ≤ b ∧ b ≤ 1000 <;> simp [h, h2]

theorem lad_impl (a b c : Int) : impl_AreLadders.f a b c = some (decide ((1 ≤ a ∧ a ≤ 1000) ∧ (1 ≤ b ∧ b ≤ 1000) ∧ (1 ≤ c ∧ c ≤ 1000))) := by
  simp only [impl_AreLadders.f, impl_isWide.f, within_eq, Option.bind_some, decide_eq_true_eq]
  by_cases h : 1 ≤ a ∧ a ≤ 1000 <;> by_cases h2 : 1 ≤ b ∧ b ≤ 1000 <;> simp [h, h2]


theorem itoa_dec (n : Nat) : (⟨(Lib.itoa (n : Int)).toArray⟩ : ByteArray) = Dec.dec n := by
  unfold Lib.itoa Dec.dec
  rw [if_neg (by omega), Int.toNat_natCast]
theorem join (a b c : Int) (w : World) (hT : Tab w) : Calls Tryd.prog 3 #[.agg #[.int .i64 a, .int .i64 b, .int .i64 c]] w fun e w' => e = .returned (.bool true) ∧ Below w.heap.size w w' := by
  by_cases h : (1 ≤ a ∧ a ≤ 1000) ∧ (1 ≤ b ∧ b ≤ 1000) ∧ (1 ≤ c ∧ c ≤ 1000)
  · obtain ⟨x, rfl⟩ : ∃ x : Nat, a = x := ⟨a.toNat, by omega⟩
    obtain ⟨y, rfl⟩ : ∃ x : Nat, b = x := ⟨b.toNat, by omega⟩
    obtain ⟨z, rfl⟩ : ∃ x : Nat, c = x := ⟨c.toNat, by omega⟩
    have hs : spec_LaddersText.f 20000 x y z = some (Dec.ltext x y z, true) := by
      simp only [spec_LaddersText.f, lad_spec, Option.bind_some]
      rw [if_pos (decide_eq_true h), Dec.clText_dec x y z 20000 (by omega) (by omega) (by omega) (by omega)]
      rfl
    have hi : impl_AreLadders.f x y z = some true := by
      rw [lad_impl, decide_eq_true h]
    have sx := Dec.dec_le x (by omega)
    have sy := Dec.dec_le y (by omega)
    have sz := Dec.dec_le z (by omega)
    have key : ∀ (n : Nat) (w1 : World), n < 10000 → Below w.heap.size w w1 → Calls Tryd.prog 25 #[.int .i64 n] w1 fun e w' => e = .returned (.string (Dec.dec n)) ∧ Below w1.heap.size w1 w' := fun n w1 hn hb => by
      have := text_calls n (by omega) (by omega) w1 (tab_below hb hT)
      rw [itoa_dec] at this
      exact this
    exact LText.law_walk x y z (Dec.ltext x y z) true w (fun w1 _ => spec_LaddersText.calls 20000 x y z _ _ w1 hs)
      (fun w1 hb => LText.ltext_yes x y z (Dec.dec x) (Dec.dec y) (Dec.dec z) (by omega) (by omega) (by omega) w1 hi (fun w2 h2 => key x w2 (by omega) (below_step hb h2)) (fun w2 h2 => key y w2 (by omega) (below_step hb h2)) (fun w2 h2 => key z w2 (by omega) (below_step hb h2)))
  · have hs : spec_LaddersText.f 0 a b c = some ((⟨#[]⟩ : ByteArray), false) := by
      simp only [spec_LaddersText.f, lad_spec, Option.bind_some]
      rw [if_neg (by simpa using h)]
    have hi : impl_AreLadders.f a b c = some false := by
      rw [lad_impl, decide_eq_false h]
    exact LText.law_walk a b c _ false w (fun w1 _ => spec_LaddersText.calls 0 a b c _ _ w1 hs) (fun w1 _ => LText.ltext_no a b c w1 hi)
end Go.Proofs.YtpmaapalpecjcaaDoor.LTJoin
