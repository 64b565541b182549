/- What impl.text, impl.number, strings.Cut, strings.Split and strings.Join tell, in the printed walks' own form. Conditions: the library's variables (Ready), the bounds in each function's own text. -/
import Derived.Test.YtkhhlnpiogfofaaGreatDoorTextC
namespace Go.Proofs.YtkhhlnpiogfofaaGreatDoor.Given
open Go.RowKit Go.Proofs.YtkhhlnpiogfofaaGreatDoorW.PrintWords Go.Proofs.YtkhhlnpiogfofaaGreatDoor.TextC
set_option linter.unusedVariables false

theorem rdy {w W : World} (h : Aside0 (Ready w)) (hb : Below w.heap.size w W) : Aside0 (Ready W) := ⟨h.out.below hb⟩

def impl_text.f (a0 : Int) : Option ByteArray := if -9223372036854775808 ≤ a0 ∧ a0 ≤ 9223372036854775807 then some ⟨(Lib.itoa a0).toArray⟩ else none
theorem impl_text.calls (a0 : Int) (r : ByteArray) (w : World) (h : impl_text.f a0 = some r) (hR : Aside0 (Ready w)) :
    Calls Tryz.prog 40 #[.int .i64 a0] w fun e w' => e = .returned (.string r) ∧ Below w.heap.size w w' := by
  unfold impl_text.f at h
  split at h
  · rename_i hb
    rw [← Option.some.inj h]
    exact text_calls a0 hb.1 hb.2 w hR.out.1
  · cases h

def impl_number.f (a0 : ByteArray) : Option (Int × Bool) := if a0.size ≤ 281474976710656 then some (Num.num a0) else none
theorem impl_number.calls (a0 : ByteArray) (r1 : Int) (r2 : Bool) (w : World) (h : impl_number.f a0 = some (r1, r2)) (hR : Aside0 (Ready w)) :
    Calls Tryz.prog 46 #[.string a0] w fun e w' => e = .returned (.tuple #[.int .i64 r1, .bool r2]) ∧ Below w.heap.size w w' := by
  unfold impl_number.f at h
  split at h
  · rename_i hb
    have e := Option.some.inj h
    have e1 : r1 = (Num.num a0).1 := by rw [e]
    have e2 : r2 = (Num.num a0).2 := by rw [e]
    rw [e1, e2]
    exact number_calls a0 hb w hR.out
  · cases h

def lib_Cut.f (a0 a1 : ByteArray) : Option (ByteArray × ByteArray × Bool) := if a0.size < 4294967281 then some ((⟨(Lib.cut a0.data.toList a1.data.toList).1.toArray⟩ : ByteArray), (⟨(Lib.cut a0.data.toList a1.data.toList).2.1.toArray⟩ : ByteArray), (Lib.cut a0.data.toList a1.data.toList).2.2) else none
theorem lib_Cut.calls (a0 a1 : ByteArray) (r1 r2 : ByteArray) (r3 : Bool) (w : World) (h : lib_Cut.f a0 a1 = some (r1, r2, r3)) (hR : Aside0 (Ready w)) :
    Calls Tryz.prog 45 #[.string a0, .string a1] w fun e w' => e = .returned (.tuple #[.string r1, .string r2, .bool r3]) ∧ Drawn0 w w' := by
  unfold lib_Cut.f at h
  split at h
  · rename_i hb
    obtain ⟨_, _, _, m, hm⟩ := hR.out
    have e := Option.some.inj h
    simp only [Prod.mk.injEq] at e
    obtain ⟨rfl, rfl, rfl⟩ := e
    exact (Tryz.strings_Cut a0 a1 m w hb hm).mono fun e w' ⟨he, hd⟩ => ⟨he, ⟨hd⟩⟩
  · cases h

def lib_Split.f (a0 a1 : ByteArray) : Option (List ByteArray) := if a0.size < 4294967281 ∧ 1 ≤ a1.size then some (Lib.splitB a1 0 (Lib.countB a0 a1) a0) else none
theorem lib_Split.calls (a0 a1 : ByteArray) (r : List ByteArray) (w : World) (h : lib_Split.f a0 a1 = some r) (hR : Aside0 (Ready w)) :
    Calls Tryz.prog 44 #[.string a0, .string a1] w fun e w' => ∃ v0_ : Value, e = .returned (v0_) ∧ Kd.R Kd.string 9 w' w.heap.size (fun _ => True) v0_ r ∧ Below w.heap.size w w' := by
  unfold lib_Split.f at h
  split at h
  · rename_i hb
    obtain ⟨_, _, _, m, hm⟩ := hR.out
    have e := Option.some.inj h
    have hl : r.length = Lib.countB a0 a1 + 1 := by rw [← e]; exact Lib.splitB_all a1 hb.2 0 _ a0 rfl
    have hc := Lib.countB_le a1 hb.2 a0.size a0 (Nat.le_refl _)
    refine (Tryz.strings_Split a0 a1 m w hb.1 hm hb.2).mono ?_
    rintro en w' ⟨he, rfl⟩
    refine ⟨_, he, ⟨fun _ _ => trivial, r.map Value.string, ?_, ?_⟩, (Below.refl _ _).alloc (Nat.le_refl _) _⟩
    · refine ⟨by rw [List.length_map]; exact (Nat.mul_one _).symm, Or.inr ⟨w.heap.size, Lib.countB a0 a1 + 1, (r.map Value.string).toArray, by rw [hl], Nat.le_refl _, ?_, by omega, by unfold maxLen; omega, ?_, ?_⟩⟩
      · rw [← e]; exact heap_alloc_new w _
      · rw [List.size_toArray, List.length_map, hl]; exact (Nat.mul_one _).symm
      · show List.take (r.length * 1) (r.map Value.string) = r.map Value.string
        exact List.take_of_length_le (by rw [List.length_map]; omega)
    · refine ⟨by rw [List.length_map]; exact (Nat.mul_one _).symm, fun j p hj => ?_⟩
      show ((r.map Value.string).drop (j * 1)).take 1 = [Value.string p]
      rw [Nat.mul_one, ← List.map_drop, List.drop_eq_getElem_cons (List.getElem?_eq_some_iff.1 hj).1, (List.getElem?_eq_some_iff.1 hj).2]
      rfl
  · cases h

def lib_Join.f (l0 : List ByteArray) (a1 : ByteArray) : Option ByteArray := if l0.length ≤ 140737488355328 ∧ (Lib.join (l0.map (·.data.toList)) a1.data.toList).length ≤ 140737488355328 then some ⟨(Lib.join (l0.map (·.data.toList)) a1.data.toList).toArray⟩ else none
theorem lib_Join.calls (A0 : Option Addr) (cap0 : Nat) (l0 : List ByteArray) (a1 : ByteArray) (r : ByteArray) (w : World) (hc : Kd.C Kd.string w A0 l0.length l0) (hm : l0.length ≤ cap0) (h : lib_Join.f l0 a1 = some r) (hR : Aside0 (Ready w)) :
    Calls Tryz.prog 41 #[.slice A0 l0.length cap0, .string a1] w fun e w' => e = .returned (.string r) ∧ Below w.heap.size w w' := by
  unfold lib_Join.f at h
  split at h
  · rename_i hb
    have e := Option.some.inj h
    cases l0 with
    | nil =>
      rw [← e]
      exact (Tryz.strings_Join_none A0 cap0 a1 w).mono fun en w' ⟨he, hw⟩ => ⟨he, hw ▸ Below.refl _ _⟩
    | cons x xs =>
      obtain ⟨_, _, h3⟩ := hc
      obtain ⟨ad, rfl, hcell⟩ := h3 (by simp)
      have cell : ∀ (j : Nat) (y : ByteArray), (x :: xs)[j]? = some y → w.cell? (ad.add (j * 1 + 0)) = some (.string y) := fun j y hy => by
        obtain ⟨c, h1, h2, h4⟩ := hcell j y hy
        have h5 : c = [Value.string y] := h2
        exact h4 0 _ (by rw [h5]; rfl)
      obtain ⟨b, o, sp⟩ := ad
      have c0 := cell 0 x rfl
      have hsp : sp = none := by
        cases sp with
        | none => rfl
        | some q =>
          have : w.cell? (⟨b, o, some q⟩ : Addr) = some (.string x) := c0
          unfold World.cell? at this
          split at this
          · simp at this
          · cases this
      subst hsp
      rw [← e]
      refine Tryz.strings_Join b o cap0 (x :: xs) a1 w (fun j y hy => ?_) (World.block_lt_of_cell? w ⟨b, o, none⟩ c0) hb.1 hm hb.2
      have h6 := cell j y hy
      rw [Nat.mul_one, Nat.add_zero] at h6
      unfold Addr.add at h6
      split at h6
      · rename_i hj; subst hj; exact h6
      · exact h6
  · cases h
end Go.Proofs.YtkhhlnpiogfofaaGreatDoor.Given
