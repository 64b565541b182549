/- What impl.text and strings.Join tell, in the printed walks' own form. Conditions: the library's table of powers of ten (Ready), the bounds in each function's own text. -/
import Derived.Test.YtpmaapalpecjcaaDoorTextC
namespace Go.Proofs.YtpmaapalpecjcaaDoor.GivenT
open Go.RowKit Go.Proofs.YtpmaapalpecjcaaDoorW.PrintWords
set_option linter.unusedVariables false

/-- The table of powers of ten lies. -/
def Ready (w : World) : Prop := TextC.Tab w
theorem rdy {w W : World} (h : Aside0 (Ready w)) (hb : Below w.heap.size w W) : Aside0 (Ready W) := ⟨TextC.tab_below hb h.out⟩

def impl_text.f (a0 : Int) : Option ByteArray := if -9223372036854775808 ≤ a0 ∧ a0 ≤ 9223372036854775807 then some ⟨(Lib.itoa a0).toArray⟩ else none
theorem impl_text.calls (a0 : Int) (r : ByteArray) (w : World) (h : impl_text.f a0 = some r) (hR : Aside0 (Ready w)) :
    Calls Tryd.prog 25 #[.int .i64 a0] w fun e w' => e = .returned (.string r) ∧ Below w.heap.size w w' := by
  unfold impl_text.f at h
  split at h
  · rename_i hb
    rw [← Option.some.inj h]
    exact TextC.text_calls a0 hb.1 hb.2 w hR.out
  · cases h

def lib_Join.f (l0 : List ByteArray) (a1 : ByteArray) : Option ByteArray := if l0.length ≤ 140737488355328 ∧ (Lib.join (l0.map (·.data.toList)) a1.data.toList).length ≤ 140737488355328 then some ⟨(Lib.join (l0.map (·.data.toList)) a1.data.toList).toArray⟩ else none
theorem lib_Join.calls (A0 : Option Addr) (cap0 : Nat) (l0 : List ByteArray) (a1 : ByteArray) (r : ByteArray) (w : World) (hc : Kd.C Kd.string w A0 l0.length l0) (hm : l0.length ≤ cap0) (h : lib_Join.f l0 a1 = some r) (hR : Aside0 (Ready w)) :
    Calls Tryd.prog 30 #[.slice A0 l0.length cap0, .string a1] w fun e w' => e = .returned (.string r) ∧ Below w.heap.size w w' := by
  unfold lib_Join.f at h
  split at h
  · rename_i hb
    have e := Option.some.inj h
    cases l0 with
    | nil =>
      rw [← e]
      exact (Tryd.strings_Join_none A0 cap0 a1 w).mono fun en w' ⟨he, hw⟩ => ⟨he, hw ▸ Below.refl _ _⟩
    | cons x xs =>
      obtain ⟨_, _, h3⟩ := hc
      obtain ⟨ad, rfl, hcell⟩ := h3 (by simp)
      have cell : ∀ (j : Nat) (y : ByteArray), (x :: xs)[j]? = some y → w.cell? (ad.add (j * 1 + 0)) = some (.string y) := fun j y hy => by
        obtain ⟨c, h1, h2, h4⟩ := hcell j y hy
        have h5 : c = [Value.string y] := h2
        exact h4 0 _ (by rw [h5]; rfl)
      obtain ⟨b, o, sp⟩ := ad
      have c0 := cell 0 x rfl
      have hsp : sp = none := by
        cases sp with
        | none => rfl
        | some q =>
          have : w.cell? (⟨b, o, some q⟩ : Addr) = some (.string x) := c0
          unfold World.cell? at this
          split at this
          · simp at this
          · cases this
      subst hsp
      rw [← e]
      refine Tryd.strings_Join b o cap0 (x :: xs) a1 w (fun j y hy => ?_) (World.block_lt_of_cell? w ⟨b, o, none⟩ c0) hb.1 hm hb.2
      have h6 := cell j y hy
      rw [Nat.mul_one, Nat.add_zero] at h6
      unfold Addr.add at h6
      split at h6
      · rename_i hj; subst hj; exact h6
      · exact h6
  · cases h
end Go.Proofs.YtpmaapalpecjcaaDoor.GivenT
