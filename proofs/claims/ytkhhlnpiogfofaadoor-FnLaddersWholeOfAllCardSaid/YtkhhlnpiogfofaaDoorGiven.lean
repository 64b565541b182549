/- What impl.text, impl.number, strings.Cut, strings.Split and strings.Join tell, in the printed walks' own form. Conditions: the library's variables (Ready), the bounds in each function's own text. -/
import Derived.Test.YtkhhlnpiogfofaaDoorTextC
namespace Go.Proofs.YtkhhlnpiogfofaaDoor.Given
open Go.RowKit Go.Proofs.YtkhhlnpiogfofaaDoorW.PrintWords Go.Proofs.YtkhhlnpiogfofaaDoor.TextC
set_option linter.unusedVariables false

theorem rdy {w W : World} (h : Aside0 (Ready w)) (hb : Below w.heap.size w W) : Aside0 (Ready W) := ⟨h.out.below hb⟩

def impl_text.f (a0 : Int) : Option ByteArray := if -9223372036854775808 ≤ a0 ∧ a0 ≤ 9223372036854775807 then some ⟨(Lib.itoa a0).toArray⟩ else none
theorem impl_text.calls (a0 : Int) (r : ByteArray) (w : World) (h : impl_text.f a0 = some r) (hR : Aside0 (Ready w)) :
    Calls Tryd.prog 68 #[.int .i64 a0] w fun e w' => e = .returned (.string r) ∧ Below w.heap.size w w' := by
  unfold impl_text.f at h
  split at h
  · rename_i hb
    rw [← Option.some.inj h]
    exact text_calls a0 hb.1 hb.2 w hR.out.1
  · cases h

def impl_number.f (a0 : ByteArray) : Option (Int × Bool) := if a0.size ≤ 281474976710656 then some (Num.num a0) else none
theorem impl_number.calls (a0 : ByteArray) (r1 : Int) (r2 : Bool) (w : World) (h : impl_number.f a0 = some (r1, r2)) (hR : Aside0 (Ready w)) :
    Calls Tryd.prog 65 #[.string a0] w fun e w' => e = .returned (.tuple #[.int .i64 r1, .bool r2]) ∧ Below w.heap.size w w' := by
  unfold impl_number.f at h
  split at h
  · rename_i hb
    have e := Option.some.inj h
    have e1 : r1 = (Num.num a0).1 := by rw [e]
    have e2 : r2 = (Num.num a0).2 := by rw [e]
    rw [e1, e2]
    exact number_calls a0 hb w hR.out
  · cases h

def lib_Cut.f (a0 a1 : ByteArray) : Option (ByteArray × ByteArray × Bool) := if a0.size < 4294967281 then some ((⟨(Lib.cut a0.data.toList a1.data.toList).1.toArray⟩ : ByteArray), (⟨(Lib.cut a0.data.toList a1.data.toList).2.1.toArray⟩ : ByteArray), (Lib.cut a0.data.toList a1.data.toList).2.2) else none
theorem lib_Cut.calls (a0 a1 : ByteArray) (r1 r2 : ByteArray) (r3 : Bool) (w : World) (h : lib_Cut.f a0 a1 = some (r1, r2, r3)) (hR : Aside0 (Ready w)) :
    Calls Tryd.prog 64 #[.string a0, .string a1] w fun e w' => e = .returned (.tuple #[.string r1, .string r2, .bool r3]) ∧ Drawn0 w w' := by
  unfold lib_Cut.f at h
  split at h
  · rename_i hb
    obtain ⟨_, _, _, m, hm⟩ := hR.out
    have e := Option.some.inj h
    simp only [Prod.mk.injEq] at e
    obtain ⟨rfl, rfl, rfl⟩ := e
    exact (Tryd.strings_Cut a0 a1 m w hb hm).mono fun e w' ⟨he, hd⟩ => ⟨he, ⟨hd⟩⟩
  · cases h

end Go.Proofs.YtkhhlnpiogfofaaDoor.Given
