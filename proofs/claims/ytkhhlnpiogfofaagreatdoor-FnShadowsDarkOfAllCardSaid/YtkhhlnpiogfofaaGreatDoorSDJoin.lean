/- The plain law and the walk of FnShadowsDarkOfAll joined: whatever is given, the law returns true. Conditions: the library's variables (Ready), the poles' cells. -/
import Derived.Test.YtkhhlnpiogfofaaGreatDoorSDMain
import Derived.Test.YtkhhlnpiogfofaaGreatDoorSDLaw
import Derived.ProofKit
import Derived.OpenShut
import Derived.SizedLaws
import Derived.Lib.SmallJoins
import Derived.Deep.Slices
import Derived.ChangeSame
namespace Go.Proofs.YtkhhlnpiogfofaaGreatDoor.SDJoin
open Go.RowKit Go.Joins Go.ChangeShapes Go.WideShapes Go.Proofs.YtkhhlnpiogfofaaGreatDoor.PFnShadowsDarkOfAll Go.Proofs.YtkhhlnpiogfofaaGreatDoorW.PrintWords Go.Proofs.YtkhhlnpiogfofaaGreatDoor.TextC
set_option linter.unusedVariables false
set_option linter.unusedSimpArgs false

theorem cells24 : Tryz.prog.cellsOf 24 = 2 := by kernel_rfl
theorem cells3 : Tryz.prog.cellsOf 3 = 1 := by kernel_rfl
theorem bytes24 : Tryz.prog.bytesOf 24 = 16 := by kernel_rfl
theorem list_of {α : Type} {P : Nat → α → Prop} : ∀ n, (∀ i, i < n → ∃ x, P i x) → ∃ l : List α, l.length = n ∧ ∀ i x, l[i]? = some x → P i x
  | 0, _ => ⟨[], rfl, fun i x h => by simp at h⟩
  | n + 1, h => by
    obtain ⟨l, hl, hP⟩ := list_of n (fun i hi => h i (by omega))
    obtain ⟨x, hx⟩ := h n (by omega)
    refine ⟨l ++ [x], by simp [hl], fun i y hi => ?_⟩
    rcases Nat.lt_or_ge i n with hlt | hge
    · rw [List.getElem?_append_left (by omega)] at hi
      exact hP i y hi
    · rw [List.getElem?_append_right (by omega)] at hi
      obtain rfl : i = n := by
        rcases Nat.eq_or_lt_of_le hge with h | h
        · exact h.symm
        · rw [List.getElem?_eq_none (by simp; omega)] at hi
          cases hi
      rw [hl, Nat.sub_self] at hi
      simp at hi
      exact hi ▸ hx
theorem pair_of {α : Type} {l : List α} (h : l.length = 2) : ∃ a b, l = [a, b] := by
  match l, h with
  | [a, b], _ => exact ⟨a, b, rfl⟩
/-- A slice of pairs of numbers that came in, as a list. -/
theorem open_pairs {H : Type} {enc : TypeId × Value → H} {W : World} {base : Nat} {spare : Nat → Bool} {held : Bool} {a : Option Addr} {len cap : Nat} {d : DataW H} {ps : List MemPlace} {ts : List TypeId} {ds : List (DataW H)} {j : Nat}
    (h : DataW.Trod enc Tryz.prog W base spare held 22 (.slice a len cap) d ps) (hsz : (DataW.weightsEach Tryz.prog ts ds).all (· ≤ reachBytes) = true) (ht : ts[j]? = some 22) (hd : ds[j]? = some d) :
    ∃ l : List S24, l.length = len ∧ Kd.C k24 W a l.length l ∧ l.length ≤ cap ∧ l.length * 16 ≤ 140737488351232 := by
  obtain ⟨fuel, hf⟩ := h
  rcases Go.Deep.open_slice Tryz.underlying22 hf with ⟨hcs, hx⟩ | ⟨a', len', cap', m, n, D, Pl, hcs, _, hlc, hmx, hm, hx, hcell⟩
  · simp [Value.cells] at hcs
    obtain ⟨rfl, rfl, rfl⟩ := hcs
    exact ⟨[], rfl, Kd.C_nil _ _, by simp, by simp⟩
  · simp [Value.cells] at hcs
    obtain ⟨rfl, rfl, rfl⟩ := hcs
    have hlm : len ≤ m := by rw [hm]; split <;> omega
    rw [cells24] at hcell
    have hP : ∀ i, i < len → ∃ x : S24, ∀ (j : Nat) (u : Value), [Value.int .i64 x.f0, Value.int .i64 x.f1][j]? = some u → W.cell? (a'.add (i * 2 + j)) = some u := by
      intro i hi
      obtain ⟨cs', hcs', htr⟩ := hcell i (by omega)
      obtain ⟨y0, y1, n', hx', hlen, h0, h1⟩ := trod_struct2 Tryz.underlying24 htr
      rw [cells24] at hlen
      obtain ⟨_, hcl, hcc⟩ := World.cells?_some hcs'
      obtain ⟨x0, e0, _, w0⟩ := DataW.trod_int Tryz.underlying3 h0
      obtain ⟨x1, e1, _, w1⟩ := DataW.trod_int Tryz.underlying3 h1
      simp only [cells3] at e0 e1
      obtain ⟨c0, c1, rfl⟩ := pair_of hlen
      simp at e0 e1
      subst e0 e1
      refine ⟨⟨x0, x1⟩, fun j u hu => ?_⟩
      have hj : j < 2 := by have := (List.getElem?_eq_some_iff.1 hu).1; simpa using this
      rw [← Go.Deep.add_add, hcc j hj]
      exact hu
    obtain ⟨l, hl, hPl⟩ := list_of len hP
    subst hl
    refine ⟨l, rfl, ⟨rfl, by unfold maxLen at hmx; omega, fun hpos => ⟨a', rfl, fun j p hj => ⟨[.int .i64 p.f0, .int .i64 p.f1], rfl, k24_mk W p, fun i u hu => hPl j p hj i u hu⟩⟩⟩, hlc, ?_⟩
    simp only [Prod.mk.injEq] at hx
    rw [hx.1] at hd
    have z := sized_slice hsz ht hd Tryz.underlying22
    rw [bytes24, List.length_map, List.length_range, List.length_map, List.length_range] at z
    have z2 : (l.length + (m - l.length)) * 16 ≤ 140737488351232 := z
    omega
theorem join (a0 : Int) (A1 : Option Addr) (c1 : Nat) (l1 : List S24) (a2 a3 a4_0 a4_1 a5_0 a5_1 a6 : Int) (A7 : Option Addr) (c7 : Nat) (l7 : List S24) (a8 : ByteArray) (hs : a8.size ≤ 140737488355328) (W : World) (hr1 : Kd.C k24 W A1 l1.length l1) (hc1 : l1.length ≤ c1) (hl1 : l1.length * 16 ≤ 140737488351232) (hr7 : Kd.C k24 W A7 l7.length l7) (hc7 : l7.length ≤ c7) (hl7 : l7.length * 16 ≤ 140737488351232) (hR : Ready W) :
    Calls Tryz.prog 3 #[.int .i64 a0, .slice A1 l1.length c1, .int .i64 a2, .int .i64 a3, .agg #[.int .i64 a4_0, .int .i64 a4_1], .agg #[.int .i64 a5_0, .int .i64 a5_1], .int .i64 a6, .slice A7 l7.length c7, .string a8] W fun e W' => e = .returned (.bool true) ∧ Below W.heap.size W W' := by
  obtain ⟨k, h⟩ := SDMain.law a0 l1 a2 a3 a4_0 a4_1 a5_0 a5_1 a6 l7 a8
  exact SDLaw.walk k a0 A1 c1 l1 a2 a3 a4_0 a4_1 a5_0 a5_1 a6 A7 c7 l7 a8 true W hr1 hc1 hr7 hc7 h rfl ⟨hR⟩
end Go.Proofs.YtkhhlnpiogfofaaGreatDoor.SDJoin
