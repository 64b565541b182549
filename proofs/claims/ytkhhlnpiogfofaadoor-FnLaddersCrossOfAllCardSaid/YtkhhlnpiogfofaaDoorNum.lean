/- The walks of impl.text and impl.number over what strconv.Itoa and strconv.Atoi tell. Conditions: what the two callees tell, as premises. -/
import Derived.Test.YtkhhlnpiogfofaaDoorLC0
import Derived.Lib.AtoiAllCases
import Derived.Lib.ItoaNum
import Derived.WalkSpells
import Derived.BigCall
import Derived.BigGuard
namespace Go.Proofs.YtkhhlnpiogfofaaDoor.Num
open Go.RowKit Go.Proofs.YtkhhlnpiogfofaaDoorW.PrintWords
set_option linter.unusedVariables false
set_option linter.unusedSimpArgs false

/-- What impl.number tells of a string. -/
def num (s : ByteArray) : Int × Bool := match Lib.atoiAll s.data.toList with
  | .ok v => (v, (⟨(Lib.itoa v).toArray⟩ : ByteArray).toList == s.toList)
  | .range => (Lib.atoiSat s.data.toList, false)
  | _ => (0, false)

theorem text_walk (n : Int) (w : World) (s : ByteArray) (h : Calls Tryd.prog 81 #[.int .i64 n] w fun e w' => e = .returned (.string s) ∧ Below w.heap.size w w') :
    Calls Tryd.prog 68 #[.int .i64 n] w fun e w' => e = .returned (.string s) ∧ Below w.heap.size w w' := by
  have H := Aside0.mk h
  clear h
  go_enter Tryd.func68, Tryd.ntmps68
  go_wp2_with (go_at_call 81; refine H.out.mono ?_; rintro e w1 ⟨rfl, hb⟩)
  go_ret
  exact ⟨rfl, hb⟩

set_option maxRecDepth 100000 in
theorem number_ok (s t : ByteArray) (v : Int) (w : World)
    (hA : Calls Tryd.prog 78 #[.string s] w fun e w' => e = .returned (.tuple #[.int .i64 v, .nilIface]) ∧ Below w.heap.size w w')
    (hT : ∀ w1, Below w.heap.size w w1 → Calls Tryd.prog 68 #[.int .i64 v] w1 fun e w' => e = .returned (.string t) ∧ Below w1.heap.size w1 w') :
    Calls Tryd.prog 65 #[.string s] w fun e w' => e = .returned (.tuple #[.int .i64 v, .bool (t.toList == s.toList)]) ∧ Below w.heap.size w w' := by
  have HA := Aside0.mk hA
  have HT := Aside0.mk hT
  clear hA hT
  go_enter Tryd.func65, Tryd.ntmps65
  go_wp2_with (go_at_call 78; refine HA.out.mono ?_; rintro e w1 ⟨rfl, hb⟩)
  go_wp2_with (go_at_call 68; refine (HT.out _ hb).mono ?_; rintro e w2 ⟨rfl, hb2⟩)
  go_ret2
  exact ⟨rfl, below_step hb hb2⟩

set_option maxRecDepth 100000 in
theorem number_err (s : ByteArray) (v : Int) (T : TypeId) (w : World)
    (hA : Calls Tryd.prog 78 #[.string s] w fun e w' => ∃ N, e = .returned (.tuple #[.int .i64 v, .iface T (.pointer (some ⟨N, 0, none⟩))]) ∧ Below w.heap.size w w') :
    Calls Tryd.prog 65 #[.string s] w fun e w' => e = .returned (.tuple #[.int .i64 v, .bool false]) ∧ Below w.heap.size w w' := by
  have HA := Aside0.mk hA
  clear hA
  go_enter Tryd.func65, Tryd.ntmps65
  go_wp2_with (go_at_call 78; refine HA.out.mono ?_; rintro e w1 ⟨N, rfl, hb⟩)
  go_wp2
  go_ret2
  exact ⟨rfl, hb⟩
end Go.Proofs.YtkhhlnpiogfofaaDoor.Num
